/-
  The law that every subtree of Best is Best of its node, walked: it returns true and turns nothing that was there.
-/
import Derived.Test.YtfaekfonemobcaaD18
namespace Go.Proofs.Ytfaekfonemobcaa
open Go.RowKit Go.Deep PK
attribute [local go_sem] Oper.lit Oper.litS fut_fut fut_drew World.cell?_alloc_some
attribute [local go_sem] fut_base_drew
theorem sub_law {N : Int} {es : List EI} {V : Nat → VV} {root : Int} {d : DI} {e : Int} (hvd : validB N es = true) (hS : Sol (EEs es) V) (h : BestR N es V root d e) :
    (¬ e = 0 ∧ d = .node 0 none 0 []) ∨ (e = 0 ∧ validD (EEs es) (toDT d) root = true ∧ ∃ (q : Nat) (x : EI), d.e = q ∧ es[q]? = some x ∧ x.t.length = d.k.length ∧
      ∀ (i : Nat) (y : DI) (t : Int) (k : DI) (f : Int), d.k[i]? = some y → x.t[i]? = some t → BestR N es V t k f → f = 0 ∧ eqD (toDT k) (toDT y) = true) := by
  have hes := EEs_ok hvd
  rcases h with ⟨h, rfl, h3⟩ | ⟨_, _, rfl, h4⟩ | ⟨_, _, _, rfl, h5⟩ | ⟨_, h2, h3, rfl, h5⟩
  · exact .inl ⟨by decide, h3⟩
  · exact .inl ⟨by decide, h4⟩
  · exact .inl ⟨by decide, h5⟩
  right
  obtain ⟨rt, rfl⟩ : ∃ rt : Nat, root = rt := ⟨root.toNat, by omega⟩
  rw [Int.toNat_natCast] at h3 h5
  obtain ⟨g1, g2⟩ := h5.good hes hS h3
  obtain ⟨e, A, c, k⟩ := d
  refine ⟨rfl, g2, ?_⟩
  rw [toDT_eq] at g2 h5
  obtain ⟨q, x, e1, hx, _, hl, _⟩ := validD_parts hvd g2
  refine ⟨q, x, e1, hx, hl, fun i y t k' f hy ht hb => ?_⟩
  simp only [DI.k] at hy
  obtain ⟨j, E, c1, c2, c3, c4, _⟩ := chosen_fin hes hS h3
  have hxm := List.mem_of_getElem? hx
  have hkid : ∃ F, edge (EEs es) e = some F ∧ ev V F = V rt ∧ ∀ (i : Nat) d t, (k.map toDT)[i]? = some d → F.t[i]? = some t → Fol V (EEs es) t d := by
    generalize hm : k.map toDT = km at h5
    cases h5 with
    | mk he hl hk =>
      refine ⟨_, he, ?_, hk⟩
      have := edge_nat c2
      rw [← c1, he] at this
      rw [Option.some.inj this]; exact c4
  obtain ⟨F, f1, f2, f3⟩ := hkid
  rw [e1, edge_at hx] at f1
  obtain rfl := Option.some.inj f1
  have hf := f3 i (toDT y) t.toNat (by rw [List.getElem?_map, hy]; rfl) (by simp only [toEE]; rw [List.getElem?_map, ht]; rfl)
  have ht5 := (okE_parts ((validB_parts hvd).2.2 x hxm)).2.2.2.2 t (List.mem_of_getElem? ht)
  have hfin : (V t.toNat).c < INF := tails_fin hes hS (List.mem_map.2 ⟨x, hxm, rfl⟩) h3 f2 (List.mem_map.2 ⟨t, List.mem_of_getElem? ht, rfl⟩)
  rcases hb with ⟨k1, _⟩ | ⟨_, k1, _⟩ | ⟨_, _, k1, _⟩ | ⟨_, _, _, rfl, k1⟩
  · rw [hvd] at k1; cases k1
  · exact absurd ht5 k1
  · omega
  · exact ⟨rfl, (eqD_iff _ _).2 (k1.unique hf)⟩
set_option maxHeartbeats 12800000 in
theorem law_dsub (N : Int) (A : Option Addr) (n c : Nat) (es : List EI) (root : Int) (w : World) (hl : es.length = n) (hn : n ≤ maxLen) (hR : RdE w A es) :
    Calls Try.prog 9 #[hv N A n c, .int .i64 root] w fun e w' => e = .returned (.bool true) ∧ Below w.heap.size w w' := by
  have HSH := Lib.hid (fun w' (hf : Fut w w') => short_any N A n c es hl hn w' (hR.fut hf))
  have HBE0 := Lib.hid (fun (V : Nat → VV) hSV t w' (hf : Fut w w') => best_any N A n c es hl hn V hSV t w' (hR.fut hf))
  have HVA0 := Lib.hid (fun (hs : validB N es = true) d w' (hf : Fut w w') hd => rdvalid_any N A n c es hl hn hs d root w' (hR.fut hf) hd)
  have hn63 : n ≤ 9223372036854775807 := hn
  have HL := Lib.hid hl
  have HR := Lib.hid hR
  clear hl hn hR
  obtain ⟨wb, hwb⟩ : ∃ wb, wb = w.alloc (.cells #[.int .i64 N, .slice A n c] 24) := ⟨_, rfl⟩
  have HF := Lib.hid (show Fut w wb from by rw [hwb]; exact (Fut.refl w).alloc _)
  have Q0 := Lib.hid (show wb.cell? ⟨w.heap.size, 0, none⟩ = some (.int .i64 N) from by rw [hwb]; (repeat (first | exact (cell_al_new _ _ _ _ _ _ (by first | rfl | (simp only [World.size_alloc]))).trans rfl | refine (cell_al_old _ _ _ (by first | omega | (simp only [World.size_alloc]; omega))).trans ?_)))
  have Q1 := Lib.hid (show wb.cell? ⟨w.heap.size, 1, none⟩ = some (.slice A n c) from by rw [hwb]; (repeat (first | exact (cell_al_new _ _ _ _ _ _ (by first | rfl | (simp only [World.size_alloc]))).trans rfl | refine (cell_al_old _ _ _ (by first | omega | (simp only [World.size_alloc]; omega))).trans ?_)))
  go_enter Try.func9, Try.ntmps9
  go_wp2_with fail
  rw [← hwb]
  clear hwb
  refine (awake_any _).mono ?_
  rintro r w1 ⟨rfl, hb⟩
  have HF1 := Lib.hid (show Fut wb w1 from hb)
  clear hb
  have g0 := HF1.out.cell Q0.out
  have g1 := HF1.out.cell Q1.out
  go_wp2_with fail
  refine (HSH.out _ (HF.out.trans HF1.out)).mono ?_
  rintro r w2 ⟨⟨q, rfl, hq⟩, hb⟩
  have HF2 := Lib.hid (HF1.out.trans (show Fut w1 w2 from hb))
  have HQ := Lib.hid hq
  clear hb g0 g1 hq
  cases q with
  | false =>
    go_wp2_with fail
    go_ret
    exact ⟨rfl, HF.out.trans HF2.out⟩
  | true =>
    obtain ⟨hsm, V, hso, hsz⟩ := HQ.out (by first | rfl | trivial)
    have HVD := Lib.hid (smallB_parts hsm).2.2.2
    have HSO := Lib.hid hso
    have HBE := Lib.hid (HBE0.out V (fun _ => ⟨hsm, hso, hsz⟩))
    clear hsm hso hsz
    have g0 := HF2.out.cell Q0.out
    have g1 := HF2.out.cell Q1.out
    go_wp2_with fail
    refine (HBE.out root _ (HF.out.trans HF2.out)).mono ?_
    rintro r v1 ⟨⟨⟨de, dA, dc, dk⟩, e, rfl, hrd, hbr⟩, hb⟩
    have HG1 := Lib.hid (HF2.out.trans (show Fut _ v1 from hb))
    have HRD := Lib.hid hrd.rd
    have HSL := Lib.hid (sub_law HVD.out HSO.out hbr)
    clear hb hrd hbr g0 g1
    simp only [dv, DI.e, DI.A, DI.c, DI.k]
    obtain ⟨dn, hdn⟩ : ∃ dn, dk.length = dn := ⟨_, rfl⟩
    rw [hdn]
    have HDN := Lib.hid hdn
    clear hdn
    have hv2 := (Fut.refl v1).alloc (.cells #[.int .i64 de, .slice dA dn dc] 27)
    have BD := Lib.hid (show Blk (v1.alloc (.cells #[.int .i64 de, .slice dA dn dc] 27)) v1.heap.size 27 #[.int .i64 de, .slice dA dn dc] from heap_new' _ _ _ rfl)
    have HRD2 := Lib.hid (HRD.out.fut hv2)
    have HG2 := Lib.hid (HG1.out.trans hv2)
    have g0 := HG2.out.cell Q0.out
    have g1 := HG2.out.cell Q1.out
    have y0 := BD.out.cell (i := 0) rfl
    have y1 := BD.out.cell (i := 1) rfl
    clear hv2
    rcases HSL.out with ⟨hne, hleaf⟩ | ⟨rfl, hvl, q, x, hde, hx, hxl, hkid⟩
    · injection hleaf with e1 e2 e3 e4
      subst e1 e2 e3 e4
      obtain rfl : dn = 0 := by rw [← HDN.out]; rfl
      obtain ⟨x1, x2, x3⟩ := cmpF_no hne
      clear hne
      go_wp2_with fail
      refine (size_leaf 0 none 0 _).mono ?_
      rintro r v3 ⟨rfl, hb⟩
      have HG3 := Lib.hid (HG2.out.trans (show Fut _ v3 from hb))
      clear hb y0 y1 g0 g1
      go_wp2_with fail
      go_ret
      exact ⟨rfl, HF.out.trans HG3.out⟩
    · have HKD := Lib.hid hkid
      have HX := Lib.hid hx
      simp only [DI.e] at hde
      obtain rfl := hde
      simp only [DI.k] at HKD hxl
      rw [HDN.out] at hxl
      obtain ⟨hS, hdl, hK⟩ := HRD2.out.parts
      have HS := Lib.hid hS
      have HKR0 := Lib.hid hK
      have hdn63 : dn ≤ 9223372036854775807 := by
        rw [HDN.out] at hdl; exact hdl
      have hq : q < n := by
        have := (List.getElem?_eq_some_iff.1 hx).1
        rw [HL.out] at this; exact this
      have HVL := Lib.hid hvl
      obtain ⟨b, o, rfl, hc⟩ := HR.out.1 q x hx
      obtain ⟨ht, htl⟩ := HR.out.2 x (List.mem_of_getElem? hx)
      have C1 := Lib.hid (hc 1 _ (by decide) rfl)
      have HT := Lib.hid ht
      obtain ⟨xh, xt, xc, xl0, xl1, xA, xk⟩ := x
      simp only at C1 HT hxl HKD
      rw [hxl] at C1
      have HXL := Lib.hid hxl
      clear hkid hx hvl hS hdl hK hc ht htl hxl HSL
      go_wp2_with fail
      generalize v1.alloc (.cells #[.int .i64 (q : Int), .slice dA dn dc] 27) = v2 at *
      have HVA := Lib.hid (HVA0.out HVD.out (.node q dA dc dk) v2 (HF.out.trans HG2.out) HRD2.out)
      rw [HVL.out] at HVA
      simp only [dv, DI.e, DI.A, DI.c, DI.k, HDN.out] at HVA
      refine HVA.out.mono ?_
      rintro r u3 ⟨rfl, hb⟩
      have hu : Fut v2 u3 := hb
      have HU := Lib.hid (HG2.out.trans hu)
      have Q0 := Lib.hid (HU.out.cell Q0.out)
      have Q1 := Lib.hid (HU.out.cell Q1.out)
      have Y0 := Lib.hid ((BD.out.fut hu).cell (i := 0) rfl)
      have Y1 := Lib.hid ((BD.out.fut hu).cell (i := 1) rfl)
      have HW3 := Lib.hid (HF.out.trans HU.out)
      have C1 := Lib.hid (HW3.out.cell C1.out)
      have HKR := Lib.hid (fun d hd => (HKR0.out d hd).fut hu)
      have HS := Lib.hid (HS.out.fut hu)
      clear hb hu g0 g1 y0 y1 BD HVA HVA0
      go_wp2_with fail
      go_loopw [7] (fun i wr => ∃ j : Nat, j ≤ dn ∧ i = .int .i64 j ∧ Fut u3 wr) (fun i _ => dn - (intOf i).toNat)
      case atStart => exact ⟨0, Nat.zero_le _, rfl, Fut.refl _⟩
      case round =>
        obtain ⟨j, hj, rfl, hF⟩ := hrel
        have HWR := Lib.hid hF
        have y1 := hF.cell Y1.out
        clear hF
        by_cases hlt : j < dn
        · obtain ⟨y, hy⟩ := get_lt HDN.out hlt
          obtain ⟨t, hty⟩ := get_lt HXL.out hlt
          obtain ⟨b1, o1, rfl, hd⟩ := HS.out j y hy
          obtain ⟨b2, o2, rfl, he⟩ := HT.out j t hty
          have HY := Lib.hid hy
          have HTY := Lib.hid hty
          obtain ⟨ye, yA, yc, yk⟩ := y
          have D0 := Lib.hid (hd 0 _ (by decide) rfl)
          have D1 := Lib.hid (hd 1 _ (by decide) rfl)
          have E0 := Lib.hid (HW3.out.cell he)
          simp only [Nat.add_zero, DI.e, DI.A, DI.c, DI.k] at D0 D1
          clear hy hty hd he
          go_wp2_with fail
          obtain ⟨S, hS⟩ : ∃ S : Nat → Bool, S = fun k => decide (wr.heap.size ≤ k) := ⟨_, rfl⟩
          have hlow : ∀ q, q < wr.heap.size → S q = false := fun q hq => by rw [hS]; exact decide_eq_false (by omega)
          have HHI := Lib.hid (show ∀ q, wr.heap.size ≤ q → S q = true from fun q hq => by rw [hS]; exact decide_eq_true hq)
          clear hS
          have g0 := cell_futS (HWR.out.cell Q0.out) (hlow _ (World.block_lt_of_cell? _ _ (HWR.out.cell Q0.out)))
          have g1 := cell_futS (HWR.out.cell Q1.out) (hlow _ (World.block_lt_of_cell? _ _ (HWR.out.cell Q1.out)))
          have x0 := cell_futS (HWR.out.cell Y0.out) (hlow _ (World.block_lt_of_cell? _ _ (HWR.out.cell Y0.out)))
          have x1 := cell_futS (HWR.out.cell C1.out) (hlow _ (World.block_lt_of_cell? _ _ (HWR.out.cell C1.out)))
          have x2 := cell_futS (HWR.out.cell E0.out) (hlow _ (World.block_lt_of_cell? _ _ (HWR.out.cell E0.out)))
          clear hlow y1
          refine wp_region_MG (relS S) o_emendatelaw30_DerivationBestSubtrees_13 (by kernel_rfl) (by kernel_rfl) (by intro c a d v w h; cases d <;> exact h) ?_; unfold o_emendatelaw30_DerivationBestSubtrees_13
          iterate 11 (refine wpS_h rfl rfl (fun K hK => ?_); go_simp; refine hK _ _ ?_; clear hK K)
          refine wpG_two' rfl rfl (fun K hK => ?_) (fun K hK => ?_)
          · go_simp
            go_at_call 21
            refine (HBE.out t _ (HW3.out.trans (HWR.out.trans (by show Fut _ _; repeat (first | (with_reducible assumption) | exact Fut.refl _ | exact Fut.fut _ _ _ | refine Fut.drew ?_ | refine Fut.alloc ?_ _ | refine Fut.trans ?_ (Fut.fut _ _ _) | refine Fut.trans ?_ (by assumption)))))).mono ?_
            rintro r wc ⟨⟨⟨ke, kA, kc, kk⟩, f, rfl, hrd, hbr⟩, hb⟩
            have hwc : Fut wr.drew wc := hb
            refine hK _ _ (.inr ((relS S).of_fut hwc)) ?_
            clear hK K
            have HWC := Lib.hid (HWR.out.trans (show Fut wr wc from (Fut.refl wr).drew.trans hwc))
            have hsz : wr.heap.size ≤ wc.heap.size := hwc.size
            have HBK := Lib.hid hbr
            simp only [dv, DI.e, DI.A, DI.c, DI.k]
            obtain ⟨kn, hkn⟩ : ∃ kn, kk.length = kn := ⟨_, rfl⟩
            rw [hkn]
            have HKN := Lib.hid hkn
            have HRW := Lib.hid (hrd.keep (ok' := fun b => wr.heap.size ≤ b ∧ b < wc.heap.size) (w' := wc) (fun b hb hlt => ⟨rfl, hb, hlt⟩))
            clear hb hrd hbr hwc hkn
            iterate 3 (refine wpS_h rfl rfl (fun K hK => ?_); go_simp; refine hK _ _ ?_; clear hK K)
            refine wpG_o rfl rfl (fun K hK => ?_)
            go_simp
            refine hK _ _ (.inr ((relS S).of_fut ((Fut.refl _).alloc _))) ?_
            clear hK K
            have BK0 : Blk (wc.alloc (.cells #[.int .i64 0, .slice none 0 0] 27)) wc.heap.size 27 #[.int .i64 0, .slice none 0 0] := heap_new' _ _ _ rfl
            have HWD := Lib.hid ((Fut.refl wc).alloc (.cells #[.int .i64 0, .slice none 0 0] 27))
            refine wpG_o rfl rfl (fun K hK => ?_)
            generalize wc.alloc (.cells #[.int .i64 0, .slice none 0 0] 27) = wd at *
            have z0 := BK0.cell (i := 0) rfl
            have z1 := BK0.cell (i := 1) rfl
            have z2 := BK0.fz 0
            have z3 := BK0.fz 1
            go_simp
            refine hK _ _ (.inr ((relS S).trans (futS_set _ _ _ (HHI.out _ hsz)) (futS_set _ _ _ (HHI.out _ hsz)))) ?_
            clear hK K z0 z1 z2 z3
            (refine wpS_h rfl rfl (fun K hK => ?_); go_simp; refine hK _ _ ?_; clear hK K)
            refine wpG_nil ?_
            have BK := Lib.hid ((BK0.set 0 (.int .i64 ke)).set 1 (.slice kA kn kc))
            have HGK := Lib.hid (show Fut u3 ((wd.setCell ⟨wc.heap.size, 0, none⟩ (.int .i64 ke)).setCell ⟨wc.heap.size, 1, none⟩ (.slice kA kn kc)) from ((HWC.out.trans HWD.out).setCell (p := ⟨wc.heap.size, 0, none⟩) (HWC.out.size) _).setCell (p := ⟨wc.heap.size, 1, none⟩) (HWC.out.size) _)
            have HK := Lib.hid ((HRW.out.keep (ok' := fun _ => True) (w' := (wd.setCell ⟨wc.heap.size, 0, none⟩ (.int .i64 ke)).setCell ⟨wc.heap.size, 1, none⟩ (.slice kA kn kc)) (fun b hb hlt => ⟨(blk_setCell_other _ _ _ _ (by simp only; omega)).trans ((blk_setCell_other _ _ _ _ (by simp only; omega)).trans (HWD.out.block b hlt)), trivial⟩)).rd)
            generalize (wd.setCell ⟨wc.heap.size, 0, none⟩ (.int .i64 ke)).setCell ⟨wc.heap.size, 1, none⟩ (.slice kA kn kc) = wk at *
            clear BK0 HRW HWD
            obtain ⟨rfl, hek⟩ := HKD.out j _ _ _ _ HY.out HTY.out HBK.out
            have HEK := Lib.hid hek
            clear hek g0 g1 x0 x1 x2
            have k0 := cell_fut (BK.out.cell (i := 0) rfl)
            have k1 := cell_fut (BK.out.cell (i := 1) rfl)
            have y1 := cell_fut (HGK.out.cell Y1.out)
            have d0 := cell_fut (HGK.out.cell D0.out)
            have d1 := cell_fut (HGK.out.cell D1.out)
            have HE := Lib.hid (fun w' (hf : Fut wk w') => equal_any (.node ke kA kc kk) (.node ye yA yc yk) w' (HK.out.fut hf) (((HKR.out _ (List.mem_of_getElem? HY.out)).fut HGK.out).fut hf))
            rw [HEK.out] at HE
            simp only [dv, DI.e, DI.A, DI.c, DI.k, HKN.out] at HE
            go_wp2_with fail
            refine wp_region_M o_emendatelaw30_DerivationBestSubtrees_14 (by kernel_rfl) (by kernel_rfl) (by intro c a d v w h; cases d <;> exact h) ?_; unfold o_emendatelaw30_DerivationBestSubtrees_14
            iterate 9 (refine wpF_h rfl rfl (fun K hK => ?_); go_simp; refine hK _ _ ?_; clear hK K)
            (refine wpF_o rfl rfl (fun K hK => ?_); go_simp; first | (go_at_call 18; refine (HE.out _ (by show Fut _ _; repeat (first | (with_reducible assumption) | exact Fut.refl _ | exact Fut.fut _ _ _ | refine Fut.drew ?_ | refine Fut.alloc ?_ _ | refine Fut.trans ?_ (Fut.fut _ _ _) | refine Fut.trans ?_ (by assumption)))).mono ?_; rintro e w1 ⟨rfl, hb1⟩; have hf1 : Fut _ w1 := hb1; refine hK _ _ (.inr hf1) ?_; clear hK K hb1))
            iterate 2 (refine wpF_h rfl rfl (fun K hK => ?_); go_simp; refine hK _ _ ?_; clear hK K)
            refine wpF_nil ?_
            go_wp2_with fail
            exact ⟨⟨j + 1, by omega, by go_num, HGK.out.trans (by show Fut _ _; repeat (first | (with_reducible assumption) | exact Fut.refl _ | exact Fut.fut _ _ _ | refine Fut.drew ?_ | refine Fut.alloc ?_ _ | refine Fut.trans ?_ (Fut.fut _ _ _) | refine Fut.trans ?_ (by assumption)))⟩, by simp [intOf]; omega⟩
          · go_simp
            refine hK _ _ (.inr ((relS S).of_fut ((Fut.refl _).alloc _))) ?_
            clear hK K
            have BK1 : Blk ((wr.alloc (.cells #[.int .i64 0, .slice none 0 0] 27)).drew) wr.heap.size 27 #[.int .i64 0, .slice none 0 0] := heap_new' _ _ _ rfl
            have HWA := Lib.hid (show Fut wr ((wr.alloc (.cells #[.int .i64 0, .slice none 0 0] 27)).drew) from ((Fut.refl wr).alloc _).drew)
            have hsa : ((wr.alloc (.cells #[.int .i64 0, .slice none 0 0] 27)).drew).heap.size = wr.heap.size + 1 := (World.size_drew _).trans (World.size_alloc _ _)
            refine wpG_o rfl rfl (fun K hK => ?_)
            go_simp
            generalize (wr.alloc (.cells #[.int .i64 0, .slice none 0 0] 27)).drew = wa at *
            go_at_call 21
            refine (HBE.out t _ (HW3.out.trans (HWR.out.trans HWA.out))).mono ?_
            rintro r wc ⟨⟨⟨ke, kA, kc, kk⟩, f, rfl, hrd, hbr⟩, hb⟩
            have hwc : Fut wa wc := hb
            refine hK _ _ (.inr ((relS S).of_fut hwc)) ?_
            clear hK K
            have HWC := Lib.hid (HWR.out.trans (HWA.out.trans hwc))
            have HRK := Lib.hid (hrd.keep (ok' := fun _ => True) (w' := (wc.setCell ⟨wr.heap.size, 0, none⟩ (.int .i64 ke)).setCell ⟨wr.heap.size, 1, none⟩ (.slice kA kk.length kc)) (fun b hb _ => ⟨(blk_setCell_other _ _ _ _ (by simp only; omega)).trans (blk_setCell_other _ _ _ _ (by simp only; omega)), trivial⟩)).rd
            have BK0 := BK1.fut hwc
            have HBK := Lib.hid hbr
            simp only [dv, DI.e, DI.A, DI.c, DI.k]
            obtain ⟨kn, hkn⟩ : ∃ kn, kk.length = kn := ⟨_, rfl⟩
            rw [hkn] at HRK ⊢
            have HKN := Lib.hid hkn
            clear hb hrd hbr hwc hkn BK1
            iterate 3 (refine wpS_h rfl rfl (fun K hK => ?_); go_simp; refine hK _ _ ?_; clear hK K)
            refine wpG_o rfl rfl (fun K hK => ?_)
            have z0 := BK0.cell (i := 0) rfl
            have z1 := BK0.cell (i := 1) rfl
            have z2 := BK0.fz 0
            have z3 := BK0.fz 1
            go_simp
            refine hK _ _ (.inr ((relS S).trans (futS_set _ _ _ (HHI.out _ (Nat.le_refl _))) (futS_set _ _ _ (HHI.out _ (Nat.le_refl _))))) ?_
            clear hK K z0 z1 z2 z3
            (refine wpS_h rfl rfl (fun K hK => ?_); go_simp; refine hK _ _ ?_; clear hK K)
            refine wpG_nil ?_
            have BK := Lib.hid ((BK0.set 0 (.int .i64 ke)).set 1 (.slice kA kn kc))
            have HGK := Lib.hid (show Fut u3 ((wc.setCell ⟨wr.heap.size, 0, none⟩ (.int .i64 ke)).setCell ⟨wr.heap.size, 1, none⟩ (.slice kA kn kc)) from (HWC.out.setCell (p := ⟨wr.heap.size, 0, none⟩) HWR.out.size _).setCell (p := ⟨wr.heap.size, 1, none⟩) HWR.out.size _)
            have HK := HRK
            generalize (wc.setCell ⟨wr.heap.size, 0, none⟩ (.int .i64 ke)).setCell ⟨wr.heap.size, 1, none⟩ (.slice kA kn kc) = wk at *
            clear BK0 HRK hsa
            obtain ⟨rfl, hek⟩ := HKD.out j _ _ _ _ HY.out HTY.out HBK.out
            have HEK := Lib.hid hek
            clear hek g0 g1 x0 x1 x2
            have k0 := cell_fut (BK.out.cell (i := 0) rfl)
            have k1 := cell_fut (BK.out.cell (i := 1) rfl)
            have y1 := cell_fut (HGK.out.cell Y1.out)
            have d0 := cell_fut (HGK.out.cell D0.out)
            have d1 := cell_fut (HGK.out.cell D1.out)
            have HE := Lib.hid (fun w' (hf : Fut wk w') => equal_any (.node ke kA kc kk) (.node ye yA yc yk) w' (HK.out.fut hf) (((HKR.out _ (List.mem_of_getElem? HY.out)).fut HGK.out).fut hf))
            rw [HEK.out] at HE
            simp only [dv, DI.e, DI.A, DI.c, DI.k, HKN.out] at HE
            go_wp2_with fail
            refine wp_region_M o_emendatelaw30_DerivationBestSubtrees_14 (by kernel_rfl) (by kernel_rfl) (by intro c a d v w h; cases d <;> exact h) ?_; unfold o_emendatelaw30_DerivationBestSubtrees_14
            iterate 9 (refine wpF_h rfl rfl (fun K hK => ?_); go_simp; refine hK _ _ ?_; clear hK K)
            (refine wpF_o rfl rfl (fun K hK => ?_); go_simp; first | (go_at_call 18; refine (HE.out _ (by show Fut _ _; repeat (first | (with_reducible assumption) | exact Fut.refl _ | exact Fut.fut _ _ _ | refine Fut.drew ?_ | refine Fut.alloc ?_ _ | refine Fut.trans ?_ (Fut.fut _ _ _) | refine Fut.trans ?_ (by assumption)))).mono ?_; rintro e w1 ⟨rfl, hb1⟩; have hf1 : Fut _ w1 := hb1; refine hK _ _ (.inr hf1) ?_; clear hK K hb1))
            iterate 2 (refine wpF_h rfl rfl (fun K hK => ?_); go_simp; refine hK _ _ ?_; clear hK K)
            refine wpF_nil ?_
            go_wp2_with fail
            exact ⟨⟨j + 1, by omega, by go_num, HGK.out.trans (by show Fut _ _; repeat (first | (with_reducible assumption) | exact Fut.refl _ | exact Fut.fut _ _ _ | refine Fut.drew ?_ | refine Fut.alloc ?_ _ | refine Fut.trans ?_ (Fut.fut _ _ _) | refine Fut.trans ?_ (by assumption)))⟩, by simp [intOf]; omega⟩
        · go_wp2_with fail
          go_ret
          exact ⟨rfl, HW3.out.trans HWR.out⟩
end Go.Proofs.Ytfaekfonemobcaa
