/-
  The reference's value of a derivation, walked.
-/
import Derived.Test.YtoiffhoiklafhaaF13
namespace Go.Proofs.Ytoiffhoiklafhaa
open Go.RowKit Go.Deep PK
attribute [local go_sem] Oper.lit Oper.litS fut_fut fut_drew World.cell?_alloc_some
attribute [local go_sem] fut_base_drew World.frozen?_setCell
theorem sizDs_ge (k : List DI) : 0 ≤ sizDs (k.map toDT) := sizDs_nonneg _ (fun d _ => sizD_pos d)
set_option maxHeartbeats 12800000 in
set_option maxRecDepth 4000 in
theorem rvalue_any (N : Int) (AA : Option Addr) (n c : Nat) (es : List EI) (hl : es.length = n) (hn : n ≤ maxLen) (hvd : validB N es = true) (htl : ∀ e ∈ es, e.t.length ≤ 4) (d : DI) : ∀ (r most : Int) w, sizD (toDT d) ≤ most → most ≤ 1000 → RdE w AA es → RdD w d →
    Calls Try.prog 28 #[hv N AA n c, .int .i64 r, dv d, .int .i64 most] w fun q w' => (∃ a, q = .returned (.tuple #[vv a, .bool (PK.validD (EEs es) (toDT d) r)]) ∧ (PK.validD (EEs es) (toDT d) r = true → a = val (EEs es) (toDT d))) ∧ Below w.heap.size w w' := by
  have HL := Lib.hid hl
  have HVD := Lib.hid hvd
  have HTL4 := Lib.hid htl
  have hn63 : n ≤ 9223372036854775807 := hn
  clear hl hvd hn htl
  induction d using DI.ind with
  | h e B d k ih =>
    intro r most w hsz hm1 hR hRD
    obtain ⟨hS, hkl, hK⟩ := hRD.parts
    have hsp := sizD_pos (toDT (.node e B d k))
    have hmp : ¬ most ≤ 0 := by omega
    have HSZ := Lib.hid (show sizDs (k.map toDT) ≤ most - 1 ∧ most - 1 ≤ 1000 from by rw [toDT_eq, sizD] at hsz; omega)
    have HR := Lib.hid hR
    have HS := Lib.hid hS
    have HK := Lib.hid hK
    have HI := Lib.hid ih
    obtain ⟨m, hm⟩ : ∃ m, k.length = m := ⟨_, rfl⟩
    have hm63 : m ≤ 9223372036854775807 := hm ▸ hkl
    have HM := Lib.hid hm
    simp only [dv, DI.e, DI.A, DI.c, DI.k, hm]
    rw [toDT_eq]
    have hw1 : IntKind.i64.wrap (most - 1) = most - 1 := by simp [IntKind.wrap, IntKind.signed, IntKind.bits]; omega
    have hw2 : wrap64 (most - 1) = most - 1 := IntWalk.wrap64_in _ ⟨by omega, by omega⟩
    clear hS hK hR ih hkl hm hRD hsz hsp
    by_cases hin : 0 ≤ e ∧ e < (n : Int)
    · obtain ⟨q, rfl⟩ : ∃ q : Nat, e = q := ⟨e.toNat, by omega⟩
      have hq : q < n := by omega
      obtain ⟨x, hx⟩ := get_lt HL.out hq
      obtain ⟨b, o, rfl, hc⟩ := HR.out.1 q x hx
      obtain ⟨ht, htl⟩ := (HR.out.2 x (List.mem_of_getElem? hx))
      have HX := Lib.hid hx
      have HT := Lib.hid ht
      have HO4 := Lib.hid (okE_parts ((validB_parts HVD.out).2.2 x (List.mem_of_getElem? hx)))
      have htl4 := HTL4.out x (List.mem_of_getElem? hx)
      have c0 := hc 0 _ (by decide) rfl
      have c1 := hc 1 _ (by decide) rfl
      have c2 := hc 2 _ (by decide) rfl
      have c3 := hc 3 _ (by decide) rfl
      have c4 := hc 4 _ (by decide) rfl
      simp only [Nat.add_zero] at c0
      have HG := Lib.hid (fun hl : x.t.length = k.length => validD_good (r := r) HVD.out hx hl)
      have HB := Lib.hid (fun h => validD_bad (r := r) (k := k.map toDT) hx h)
      have HVN := Lib.hid (val_node (k := k.map toDT) hx)
      clear hin hx hc ht
      obtain ⟨xh, xt, xc, xl0, xl1, xA, xk⟩ := x
      simp only at c0 c1 c2 c3 c4 HT HO4 HG HB htl htl4 HVN
      obtain ⟨tl, htl2⟩ : ∃ tl, xt.length = tl := ⟨_, rfl⟩
      rw [htl2] at c1 htl htl4
      have htl63 : tl ≤ 9223372036854775807 := htl
      have HTL := Lib.hid htl2
      rw [htl2, HM.out] at HG
      clear htl htl2
      generalize PK.validD (EEs es) (.node (q : Int) (k.map toDT)) r = res at HG HB ⊢
      have hqn : ¬ ((q : Int) < 0) := by omega
      by_cases hr : xh = r
      · subst hr
        by_cases hlen : tl = m
        · subst hlen
          have HG := Lib.hid (fun (_ : xt.length = tl) => HG.out rfl)
          have c0 := ((Fut.refl w).alloc (.cells #[.int .i64 N, .slice (some ⟨b, o, none⟩) n c] 24)).cell c0
          have c1 := ((Fut.refl w).alloc (.cells #[.int .i64 N, .slice (some ⟨b, o, none⟩) n c] 24)).cell c1
          have c2 := ((Fut.refl w).alloc (.cells #[.int .i64 N, .slice (some ⟨b, o, none⟩) n c] 24)).cell c2
          have c3 := ((Fut.refl w).alloc (.cells #[.int .i64 N, .slice (some ⟨b, o, none⟩) n c] 24)).cell c3
          have c4 := ((Fut.refl w).alloc (.cells #[.int .i64 N, .slice (some ⟨b, o, none⟩) n c] 24)).cell c4
          go_enter Try.func28, Try.ntmps28
          go_wp2_with fail
          obtain ⟨wb, hwb⟩ : ∃ wb, wb = (((w.alloc (.cells #[.int .i64 N, .slice (some ⟨b, o, none⟩) n c] 24)).alloc (.cells #[.int .i64 q, .slice B tl d] 36)).alloc (.cells #[.int .i64 0, .int .i64 0] 46)).alloc (.cells #[.int .i64 xh, .slice xA tl xk, .int .i64 xc, .int .i64 xl0, .int .i64 xl1] 49) := ⟨_, rfl⟩
          have HF := Lib.hid (show Fut w wb from by rw [hwb]; exact ((((Fut.refl w).alloc _).alloc _).alloc _).alloc _)
          have HBH := Lib.hid (show Blk wb w.heap.size 24 #[.int .i64 N, .slice (some ⟨b, o, none⟩) n c] from by rw [hwb]; (repeat (first | exact heap_new' _ _ _ (by first | rfl | (simp only [World.size_alloc])) | refine (blk_alloc_lt _ _ _ (by first | omega | (simp only [World.size_alloc]; omega))).trans ?_)))
          have HBD := Lib.hid (show Blk wb (w.heap.size + 1) 36 #[.int .i64 q, .slice B tl d] from by rw [hwb]; (repeat (first | exact heap_new' _ _ _ (by first | rfl | (simp only [World.size_alloc])) | refine (blk_alloc_lt _ _ _ (by first | omega | (simp only [World.size_alloc]; omega))).trans ?_)))
          have HZ := Lib.hid (show Blk wb (w.heap.size + 1 + 1) 46 #[.int .i64 0, .int .i64 0] from by rw [hwb]; (repeat (first | exact heap_new' _ _ _ (by first | rfl | (simp only [World.size_alloc])) | refine (blk_alloc_lt _ _ _ (by first | omega | (simp only [World.size_alloc]; omega))).trans ?_)))
          have HEB := Lib.hid (show Blk wb (w.heap.size + 1 + 1 + 1) 49 #[.int .i64 xh, .slice xA tl xk, .int .i64 xc, .int .i64 xl0, .int .i64 xl1] from by rw [hwb]; (repeat (first | exact heap_new' _ _ _ (by first | rfl | (simp only [World.size_alloc])) | refine (blk_alloc_lt _ _ _ (by first | omega | (simp only [World.size_alloc]; omega))).trans ?_)))
          rw [← hwb]
          clear hwb c0 c1 c2 c3 c4
          go_loopw [11, 12, 13] (fun x l i wr => ∃ (j : Nat) (lf : Int), j ≤ tl ∧ i = .int .i64 j ∧ l = .int .i64 lf ∧ Hid (sizDs ((k.drop j).map toDT) ≤ lf ∧ lf ≤ 1000) ∧ Hid (∀ (i : Nat) d t, i < j → k[i]? = some d → xt[i]? = some t → PK.validD (EEs es) (toDT d) t = true) ∧ Hid (wr.ownsRow wb.heap.size 46 2 x j (((k.take j).map (fun d => val (EEs es) (toDT d))).flatMap encV)) ∧ Fut wb wr) (fun _ _ i _ => tl - (intOf i).toNat)
          case atStart => exact ⟨0, most - 1, Nat.zero_le _, rfl, rfl, Lib.hid (by have := HSZ.out; rw [List.drop_zero]; omega), Lib.hid (fun i d t h => by omega), Lib.hid (World.ownsRow_nil _ _ _ _), Fut.refl _⟩
          case round =>
            obtain ⟨j, lf, hj, rfl, rfl, HLF, HAL, HO, hF⟩ := hrel
            obtain ⟨XA, Xc, rfl, _⟩ := own_form HO.out
            have q0 := (HBH.out.fut hF).cell (i := 0) rfl
            have q1 := (HBH.out.fut hF).cell (i := 1) rfl
            have q3 := (HBD.out.fut hF).cell (i := 1) rfl
            by_cases hlt : j < tl
            · obtain ⟨y, hy⟩ := get_lt HM.out hlt
              obtain ⟨t, hty⟩ := get_lt HTL.out hlt
              obtain ⟨b1, o1, rfl, hd⟩ := HS.out j y hy
              obtain ⟨b4, o4, rfl, hct⟩ := HT.out j t hty
              have d0 := hF.cell (HF.out.cell (hd 0 _ (by decide) rfl))
              have d1 := hF.cell (HF.out.cell (hd 1 _ (by decide) rfl))
              simp only [Nat.add_zero] at d0
              have u0 := hF.cell (HF.out.cell hct)
              have x1 := (HEB.out.fut hF).cell (i := 1) rfl
              have HY := Lib.hid hy
              have HTY := Lib.hid hty
              have hdr := sizDs_drop k j y hy
              have hpos := sizD_pos (toDT y)
              have hge := sizDs_ge (k.drop (j + 1))
              have HDR := Lib.hid hdr
              have HGE := Lib.hid hge
              have HLS := HLF.out
              have HC := Lib.hid (fun w' (hf : Fut wr w') => HI.out y (List.mem_of_getElem? hy) t lf w' (by omega) (by omega) (((HR.out.fut HF.out).fut hF).fut hf) ((((HK.out y (List.mem_of_getElem? hy)).fut HF.out).fut hF).fut hf))
              have HVS := Lib.hid (val_s_le (EEs es) (toDT y))
              have HV0 := Lib.hid (val_ok (EEs_ok HVD.out) (toDT y))
              obtain ⟨vd, hvd⟩ : ∃ vd, PK.validD (EEs es) (toDT y) t = vd := ⟨_, rfl⟩
              rw [hvd] at HC
              have HVY := Lib.hid hvd
              have HW2 := Lib.hid hF
              clear hy hty hd hF hct hvd hdr hpos hge HLS
              obtain ⟨ye, yA, yc, yk⟩ := y
              simp only [DI.e, DI.A, DI.c, DI.k] at d0 d1
              obtain ⟨yn, hyn⟩ : ∃ yn, yk.length = yn := ⟨_, rfl⟩
              simp only [dv, DI.e, DI.A, DI.c, DI.k, hyn] at HC d1
              obtain ⟨S, hS⟩ : ∃ S : Nat → Bool, S = fun k => decide (wr.heap.size ≤ k) := ⟨_, rfl⟩
              have hlow : ∀ q, q < wr.heap.size → S q = false := fun q hq => by rw [hS]; exact decide_eq_false (by omega)
              have HHI := Lib.hid (show ∀ q, wr.heap.size ≤ q → S q = true from fun q hq => by rw [hS]; exact decide_eq_true hq)
              clear hS
              go_wp2_with fail
              have d0 := cell_futS d0 (hlow _ (World.block_lt_of_cell? _ _ d0))
              have d1 := cell_futS d1 (hlow _ (World.block_lt_of_cell? _ _ d1))
              have u0 := cell_futS u0 (hlow _ (World.block_lt_of_cell? _ _ u0))
              have x1 := cell_futS x1 (hlow _ (World.block_lt_of_cell? _ _ x1))
              have q0 := cell_futS q0 (hlow _ (World.block_lt_of_cell? _ _ q0))
              have q1 := cell_futS q1 (hlow _ (World.block_lt_of_cell? _ _ q1))
              have q3 := cell_futS q3 (hlow _ (World.block_lt_of_cell? _ _ q3))
              clear hlow
              refine wp_region_MG (relS S) o_emendateref29_Value_11 (by kernel_rfl) (by kernel_rfl) (by intro c a d v w h; cases d <;> exact h) ?_; unfold o_emendateref29_Value_11
              iterate 12 (refine wpS_h rfl rfl (fun K hK => ?_); go_simp; refine hK _ _ ?_; clear hK K)
              refine wpG_two' rfl rfl (fun K hK => ?_) (fun K hK => ?_)
              · go_simp
                go_at_call 28
                refine (HC.out _ ((Fut.refl wr).drew)).mono ?_
                rintro x w3 ⟨⟨⟨ac, as'⟩, rfl, hav⟩, hb⟩
                have f3 : Fut wr w3 := ((Fut.refl wr).drew).trans hb
                refine hK _ _ (.inr ((relS S).of_fut hb)) ?_
                clear hK K
                iterate 3 (refine wpS_h rfl rfl (fun K hK => ?_); go_simp; refine hK _ _ ?_; clear hK K)
                refine wpG_o rfl rfl (fun K hK => ?_)
                go_simp
                refine hK _ _ (.inr ((relS S).of_fut ((Fut.refl _).alloc _))) ?_
                clear hK K
                obtain ⟨zb, hzb⟩ : ∃ zb, zb = w3.heap.size := ⟨_, rfl⟩
                rw [← hzb]
                have ZB : Blk (w3.alloc (.cells #[.int .i64 0, .int .i64 0] 46)) zb 46 #[.int .i64 0, .int .i64 0] := by rw [hzb]; exact heap_new' _ _ _ rfl
                have F4 : Fut wr (w3.alloc (.cells #[.int .i64 0, .int .i64 0] 46)) := f3.alloc _
                have zl : wr.heap.size ≤ zb := by rw [hzb]; exact f3.size
                generalize w3.alloc (.cells #[.int .i64 0, .int .i64 0] 46) = w4 at *
                clear hzb f3 hb
                refine wpG_o rfl rfl (fun K hK => ?_)
                have z0 := ZB.cell (i := 0) rfl
                have z1 := ZB.cell (i := 1) rfl
                have z2 := ZB.fz 0
                have z3 := ZB.fz 1
                go_simp
                refine hK _ _ (.inr ((relS S).trans (futS_set _ _ _ (HHI.out _ zl)) (futS_set _ _ _ (HHI.out _ zl)))) ?_
                clear hK K z0 z1 z2 z3
                have HZB := Lib.hid (show Blk ((w4.setCell ⟨zb, 0, none⟩ (.int .i64 ac)).setCell ⟨zb, 1, none⟩ (.int .i64 as')) zb 46 #[.int .i64 ac, .int .i64 as'] from (ZB.set 0 _).set 1 _)
                have HF4 := Lib.hid (show Fut wr ((w4.setCell ⟨zb, 0, none⟩ (.int .i64 ac)).setCell ⟨zb, 1, none⟩ (.int .i64 as')) from ((F4).setCell (p := ⟨zb, 0, none⟩) zl _).setCell (p := ⟨zb, 1, none⟩) zl _)
                generalize ((w4.setCell ⟨zb, 0, none⟩ (.int .i64 ac)).setCell ⟨zb, 1, none⟩ (.int .i64 as')) = w5 at *
                clear ZB F4 zl
                (refine wpS_h rfl rfl (fun K hK => ?_); go_simp; refine hK _ _ ?_; clear hK K)
                refine wpG_nil ?_
                have HAV := Lib.hid hav
                have HWX := Lib.hid (HW2.out.trans HF4.out)
                clear hav d0 d1 u0 q0 q1 q3 x1 HC
                cases vd with
                | false =>
                  have HZ5 := HZ.out.fut HWX.out
                  have g4 := HZ5.cell (i := 0) rfl
                  have g5 := HZ5.cell (i := 1) rfl
                  have g2 := HZ5.fz 0
                  have g3 := HZ5.fz 1
                  have HZX := Lib.hid HZ5
                  have HRES := Lib.hid (show res = false from by
                    cases res with
                    | false => rfl
                    | true => have := (HG.out HTL.out).1 rfl |>.2 j _ t HY.out HTY.out; rw [HVY.out] at this; cases this)
                  clear HZ5
                  go_wp2_with fail
                  refine bodyPost_ret (res_cell2 rval_res _ _ (w.heap.size + 1 + 1) _ _ _ _ rfl ((HZX.out.set 0 (.int .i64 0)).set 1 (.int .i64 0)) Try.underlying46 rfl (by kernel_rfl)) rfl ?_
                  exact ⟨⟨⟨0, 0⟩, by rw [HRES.out]; rfl, fun h => by rw [HRES.out] at h; cases h⟩, ((HF.out.trans HWX.out).setCell (p := ⟨w.heap.size + 1 + 1, 0, none⟩) (by simp only; omega) _).setCell (p := ⟨w.heap.size + 1 + 1, 1, none⟩) (by simp only; omega) _⟩
                | true =>
                  have hae := HAV.out rfl
                  have hvs := HVS.out
                  have hv0 := HV0.out
                  rw [← hae] at hvs hv0
                  have has0 : 0 ≤ as' := hv0.2.2.1
                  have hasl : as' ≤ sizD (toDT (.node ye yA yc yk)) := hvs
                  have hdr := HDR.out
                  have hge := HGE.out
                  have hlf := HLF.out
                  have hpos := sizD_pos (toDT (.node ye yA yc yk))
                  have HMX := Lib.hid (show 1 ≤ (if as' < 1 then (1 : Int) else as') ∧ (if as' < 1 then (1 : Int) else as') ≤ sizD (toDT (.node ye yA yc yk)) from by split <;> omega)
                  have HAE := Lib.hid hae
                  have z0 := HZB.out.cell (i := 0) rfl
                  have z1 := HZB.out.cell (i := 1) rfl
                  clear hae hvs hv0 hdr hge hlf hpos
                  obtain ⟨mx, hmx⟩ : ∃ mx, (if as' < 1 then (1 : Int) else as') = mx := ⟨_, rfl⟩
                  have hmb := HMX.out
                  rw [hmx] at hmb
                  have hgl := HGE.out
                  have hdl := HDR.out
                  have hll := HLF.out
                  have HLN := Lib.hid (show sizDs ((k.drop (j + 1)).map toDT) ≤ lf - mx ∧ lf - mx ≤ 1000 from by omega)
                  have hwm : wrap64 (lf - mx) = lf - mx := IntWalk.wrap64_in _ ⟨by omega, by omega⟩
                  have HMXE := Lib.hid hmx
                  have HO5 := Lib.hid (own_fut HO.out HF4.out)
                  have HOA := Lib.hid (World.ownsRow.alloc HO5.out (.cells #[.int .i64 ac, .int .i64 as'] 46))
                  have HFA := Lib.hid (HWX.out.alloc (.cells #[.int .i64 ac, .int .i64 as'] 46))
                  clear hmx hmb hgl hdl hll
                  by_cases ha1 : as' < 1
                  · have hmm : mx = 1 := by rw [← HMXE.out, if_pos ha1]
                    rw [hmm] at hwm
                    have HLN := Lib.hid (show sizDs ((k.drop (j + 1)).map toDT) ≤ lf - 1 ∧ lf - 1 ≤ 1000 from by have := HLN.out; rw [hmm] at this; exact this)
                    clear hmm
                    go_wp2_with (at_builtin; refine wpList_push rfl 42 46 2 16 _ Try.underlying42 info_vv rfl (by decide) (by decide) (.tmp 85) (.tmp 87) rfl wb.heap.size (.slice XA j Xc) j _ rfl HOA.out w5.heap.size [.int .i64 ac, .int .i64 as'] rfl (heap_new' _ _ _ rfl) rfl (by simp [Value.oneCell']) (by omega) HFA.out.size ?_; intro g cap w' h1 h2 h3)
                    refine ⟨⟨j + 1, lf - 1, by omega, by go_num, by first | rfl | rw [hwm], HLN, Lib.hid (fun i d t hi hd ht => ?_), Lib.hid ?_, Below.grown HFA.out h2 HFA.out.size (fun q hq => (World.ownsRow.lt HOA.out q hq).1)⟩, by simp [intOf]; omega⟩
                    · by_cases e : i = j
                      · subst e
                        rw [HY.out] at hd
                        rw [HTY.out] at ht
                        obtain rfl := Option.some.inj hd
                        obtain rfl := Option.some.inj ht
                        exact HVY.out
                      · exact HAL.out i d t (by omega) hd ht
                    · rw [List.take_add_one, HY.out, List.map_append, List.flatMap_append]
                      simp only [Option.toList_some, List.map_cons, List.map_nil, ← HAE.out]
                      exact h1
                  · have hmm : mx = as' := by rw [← HMXE.out, if_neg ha1]
                    rw [hmm] at hwm
                    have HLN := Lib.hid (show sizDs ((k.drop (j + 1)).map toDT) ≤ lf - as' ∧ lf - as' ≤ 1000 from by have := HLN.out; rw [hmm] at this; exact this)
                    clear hmm
                    go_wp2_with (at_builtin; refine wpList_push rfl 42 46 2 16 _ Try.underlying42 info_vv rfl (by decide) (by decide) (.tmp 85) (.tmp 87) rfl wb.heap.size (.slice XA j Xc) j _ rfl HOA.out w5.heap.size [.int .i64 ac, .int .i64 as'] rfl (heap_new' _ _ _ rfl) rfl (by simp [Value.oneCell']) (by omega) HFA.out.size ?_; intro g cap w' h1 h2 h3)
                    refine ⟨⟨j + 1, lf - as', by omega, by go_num, by first | rfl | rw [hwm], HLN, Lib.hid (fun i d t hi hd ht => ?_), Lib.hid ?_, Below.grown HFA.out h2 HFA.out.size (fun q hq => (World.ownsRow.lt HOA.out q hq).1)⟩, by simp [intOf]; omega⟩
                    · by_cases e : i = j
                      · subst e
                        rw [HY.out] at hd
                        rw [HTY.out] at ht
                        obtain rfl := Option.some.inj hd
                        obtain rfl := Option.some.inj ht
                        exact HVY.out
                      · exact HAL.out i d t (by omega) hd ht
                    · rw [List.take_add_one, HY.out, List.map_append, List.flatMap_append]
                      simp only [Option.toList_some, List.map_cons, List.map_nil, ← HAE.out]
                      exact h1
              · go_simp
                refine hK _ _ (.inr ((relS S).of_fut ((Fut.refl _).alloc _))) ?_
                clear hK K
                obtain ⟨zb, hzb⟩ : ∃ zb, zb = wr.heap.size := ⟨_, rfl⟩
                rw [← hzb]
                have ZB0 : Blk (wr.drew.alloc (.cells #[.int .i64 0, .int .i64 0] 46)) zb 46 #[.int .i64 0, .int .i64 0] := by rw [hzb]; exact heap_new' _ _ _ rfl
                have F0 : Fut wr (wr.drew.alloc (.cells #[.int .i64 0, .int .i64 0] 46)) := (Fut.refl wr).drew.alloc _
                have zl : wr.heap.size ≤ zb := by omega
                clear hzb
                refine wpG_o rfl rfl (fun K hK => ?_)
                go_simp
                go_at_call 28
                refine (HC.out _ (F0)).mono ?_
                rintro x w3 ⟨⟨⟨ac, as'⟩, rfl, hav⟩, hb⟩
                have f3 : Fut wr w3 := (F0).trans hb
                refine hK _ _ (.inr ((relS S).of_fut hb)) ?_
                clear hK K
                iterate 3 (refine wpS_h rfl rfl (fun K hK => ?_); go_simp; refine hK _ _ ?_; clear hK K)
                have ZB : Blk w3 zb 46 #[.int .i64 0, .int .i64 0] := ZB0.fut hb
                have F4 : Fut wr w3 := f3
                clear ZB0 F0 f3 hb
                generalize w3 = w4 at *
                refine wpG_o rfl rfl (fun K hK => ?_)
                have z0 := ZB.cell (i := 0) rfl
                have z1 := ZB.cell (i := 1) rfl
                have z2 := ZB.fz 0
                have z3 := ZB.fz 1
                go_simp
                refine hK _ _ (.inr ((relS S).trans (futS_set _ _ _ (HHI.out _ zl)) (futS_set _ _ _ (HHI.out _ zl)))) ?_
                clear hK K z0 z1 z2 z3
                have HZB := Lib.hid (show Blk ((w4.setCell ⟨zb, 0, none⟩ (.int .i64 ac)).setCell ⟨zb, 1, none⟩ (.int .i64 as')) zb 46 #[.int .i64 ac, .int .i64 as'] from (ZB.set 0 _).set 1 _)
                have HF4 := Lib.hid (show Fut wr ((w4.setCell ⟨zb, 0, none⟩ (.int .i64 ac)).setCell ⟨zb, 1, none⟩ (.int .i64 as')) from ((F4).setCell (p := ⟨zb, 0, none⟩) zl _).setCell (p := ⟨zb, 1, none⟩) zl _)
                generalize ((w4.setCell ⟨zb, 0, none⟩ (.int .i64 ac)).setCell ⟨zb, 1, none⟩ (.int .i64 as')) = w5 at *
                clear ZB F4 zl
                (refine wpS_h rfl rfl (fun K hK => ?_); go_simp; refine hK _ _ ?_; clear hK K)
                refine wpG_nil ?_
                have HAV := Lib.hid hav
                have HWX := Lib.hid (HW2.out.trans HF4.out)
                clear hav d0 d1 u0 q0 q1 q3 x1 HC
                cases vd with
                | false =>
                  have HZ5 := HZ.out.fut HWX.out
                  have g4 := HZ5.cell (i := 0) rfl
                  have g5 := HZ5.cell (i := 1) rfl
                  have g2 := HZ5.fz 0
                  have g3 := HZ5.fz 1
                  have HZX := Lib.hid HZ5
                  have HRES := Lib.hid (show res = false from by
                    cases res with
                    | false => rfl
                    | true => have := (HG.out HTL.out).1 rfl |>.2 j _ t HY.out HTY.out; rw [HVY.out] at this; cases this)
                  clear HZ5
                  go_wp2_with fail
                  refine bodyPost_ret (res_cell2 rval_res _ _ (w.heap.size + 1 + 1) _ _ _ _ rfl ((HZX.out.set 0 (.int .i64 0)).set 1 (.int .i64 0)) Try.underlying46 rfl (by kernel_rfl)) rfl ?_
                  exact ⟨⟨⟨0, 0⟩, by rw [HRES.out]; rfl, fun h => by rw [HRES.out] at h; cases h⟩, ((HF.out.trans HWX.out).setCell (p := ⟨w.heap.size + 1 + 1, 0, none⟩) (by simp only; omega) _).setCell (p := ⟨w.heap.size + 1 + 1, 1, none⟩) (by simp only; omega) _⟩
                | true =>
                  have hae := HAV.out rfl
                  have hvs := HVS.out
                  have hv0 := HV0.out
                  rw [← hae] at hvs hv0
                  have has0 : 0 ≤ as' := hv0.2.2.1
                  have hasl : as' ≤ sizD (toDT (.node ye yA yc yk)) := hvs
                  have hdr := HDR.out
                  have hge := HGE.out
                  have hlf := HLF.out
                  have hpos := sizD_pos (toDT (.node ye yA yc yk))
                  have HMX := Lib.hid (show 1 ≤ (if as' < 1 then (1 : Int) else as') ∧ (if as' < 1 then (1 : Int) else as') ≤ sizD (toDT (.node ye yA yc yk)) from by split <;> omega)
                  have HAE := Lib.hid hae
                  have z0 := HZB.out.cell (i := 0) rfl
                  have z1 := HZB.out.cell (i := 1) rfl
                  clear hae hvs hv0 hdr hge hlf hpos
                  obtain ⟨mx, hmx⟩ : ∃ mx, (if as' < 1 then (1 : Int) else as') = mx := ⟨_, rfl⟩
                  have hmb := HMX.out
                  rw [hmx] at hmb
                  have hgl := HGE.out
                  have hdl := HDR.out
                  have hll := HLF.out
                  have HLN := Lib.hid (show sizDs ((k.drop (j + 1)).map toDT) ≤ lf - mx ∧ lf - mx ≤ 1000 from by omega)
                  have hwm : wrap64 (lf - mx) = lf - mx := IntWalk.wrap64_in _ ⟨by omega, by omega⟩
                  have HMXE := Lib.hid hmx
                  have HO5 := Lib.hid (own_fut HO.out HF4.out)
                  have HOA := Lib.hid (World.ownsRow.alloc HO5.out (.cells #[.int .i64 ac, .int .i64 as'] 46))
                  have HFA := Lib.hid (HWX.out.alloc (.cells #[.int .i64 ac, .int .i64 as'] 46))
                  clear hmx hmb hgl hdl hll
                  by_cases ha1 : as' < 1
                  · have hmm : mx = 1 := by rw [← HMXE.out, if_pos ha1]
                    rw [hmm] at hwm
                    have HLN := Lib.hid (show sizDs ((k.drop (j + 1)).map toDT) ≤ lf - 1 ∧ lf - 1 ≤ 1000 from by have := HLN.out; rw [hmm] at this; exact this)
                    clear hmm
                    go_wp2_with (at_builtin; refine wpList_push rfl 42 46 2 16 _ Try.underlying42 info_vv rfl (by decide) (by decide) (.tmp 85) (.tmp 87) rfl wb.heap.size (.slice XA j Xc) j _ rfl HOA.out w5.heap.size [.int .i64 ac, .int .i64 as'] rfl (heap_new' _ _ _ rfl) rfl (by simp [Value.oneCell']) (by omega) HFA.out.size ?_; intro g cap w' h1 h2 h3)
                    refine ⟨⟨j + 1, lf - 1, by omega, by go_num, by first | rfl | rw [hwm], HLN, Lib.hid (fun i d t hi hd ht => ?_), Lib.hid ?_, Below.grown HFA.out h2 HFA.out.size (fun q hq => (World.ownsRow.lt HOA.out q hq).1)⟩, by simp [intOf]; omega⟩
                    · by_cases e : i = j
                      · subst e
                        rw [HY.out] at hd
                        rw [HTY.out] at ht
                        obtain rfl := Option.some.inj hd
                        obtain rfl := Option.some.inj ht
                        exact HVY.out
                      · exact HAL.out i d t (by omega) hd ht
                    · rw [List.take_add_one, HY.out, List.map_append, List.flatMap_append]
                      simp only [Option.toList_some, List.map_cons, List.map_nil, ← HAE.out]
                      exact h1
                  · have hmm : mx = as' := by rw [← HMXE.out, if_neg ha1]
                    rw [hmm] at hwm
                    have HLN := Lib.hid (show sizDs ((k.drop (j + 1)).map toDT) ≤ lf - as' ∧ lf - as' ≤ 1000 from by have := HLN.out; rw [hmm] at this; exact this)
                    clear hmm
                    go_wp2_with (at_builtin; refine wpList_push rfl 42 46 2 16 _ Try.underlying42 info_vv rfl (by decide) (by decide) (.tmp 85) (.tmp 87) rfl wb.heap.size (.slice XA j Xc) j _ rfl HOA.out w5.heap.size [.int .i64 ac, .int .i64 as'] rfl (heap_new' _ _ _ rfl) rfl (by simp [Value.oneCell']) (by omega) HFA.out.size ?_; intro g cap w' h1 h2 h3)
                    refine ⟨⟨j + 1, lf - as', by omega, by go_num, by first | rfl | rw [hwm], HLN, Lib.hid (fun i d t hi hd ht => ?_), Lib.hid ?_, Below.grown HFA.out h2 HFA.out.size (fun q hq => (World.ownsRow.lt HOA.out q hq).1)⟩, by simp [intOf]; omega⟩
                    · by_cases e : i = j
                      · subst e
                        rw [HY.out] at hd
                        rw [HTY.out] at ht
                        obtain rfl := Option.some.inj hd
                        obtain rfl := Option.some.inj ht
                        exact HVY.out
                      · exact HAL.out i d t (by omega) hd ht
                    · rw [List.take_add_one, HY.out, List.map_append, List.flatMap_append]
                      simp only [Option.toList_some, List.map_cons, List.map_nil, ← HAE.out]
                      exact h1
            · have hjn : j = tl := by omega
              subst hjn
              have hl9 : k.take j = k := List.take_of_length_le (by rw [HM.out]; exact Nat.le_refl _)
              have h9 := HO.out
              rw [hl9] at h9
              have h8 := RdS.of_own (enc := encV) encV_len (by decide) h9
              have HCO := Lib.hid (rcombine_any xc XA j Xc (k.map (fun d => val (EEs es) (toDT d))) wr (by rw [List.length_map, HM.out]) (by unfold maxLen; omega) ⟨HO4.out.2.2.1, HO4.out.2.2.2.1⟩ (fun v hv => by
                obtain ⟨d, _, rfl⟩ := List.mem_map.1 hv
                exact val_ok (EEs_ok HVD.out) _) h8)
              generalize hcv : comb xc (k.map (fun d => val (EEs es) (toDT d))) = z at HCO
              have HCV := Lib.hid hcv
              obtain ⟨zc, zs⟩ := z
              have HRES := Lib.hid (show res = true from (HG.out HTL.out).2 ⟨by first | rfl | trivial, fun i d t hi ht => HAL.out i d t (by have := (List.getElem?_eq_some_iff.1 hi).1; rw [HM.out] at this; exact this) hi ht⟩)
              have HF2 := Lib.hid hF
              have x2 := (HEB.out.fut hF).cell (i := 2) rfl
              clear hl9 h9 h8 hF hcv q0 q1
              go_wp2_with fail
              refine HCO.out.mono ?_
              rintro x w1 ⟨rfl, hb⟩
              have f1 : Fut wr w1 := hb
              have hz1 := (HZ.out.fut HF2.out).fut f1
              have g4 := hz1.cell (i := 0) rfl
              have g5 := hz1.cell (i := 1) rfl
              have g2 := hz1.fz 0
              have g3 := hz1.fz 1
              have HZ3 := Lib.hid hz1
              have HF3 := Lib.hid (HF.out.trans (HF2.out.trans f1))
              clear hb f1 hz1 x2 q3
              go_wp2_with fail
              refine bodyPost_ret (res_cell2 rval_res _ _ (w.heap.size + 1 + 1) _ _ _ _ rfl ((HZ3.out.set 0 (.int .i64 zc)).set 1 (.int .i64 zs)) Try.underlying46 rfl (by kernel_rfl)) rfl ?_
              exact ⟨⟨⟨zc, zs⟩, by rw [HRES.out]; rfl, fun _ => by rw [HVN.out, List.map_map, show (val (EEs es) ∘ toDT) = (fun d => val (EEs es) (toDT d)) from rfl, HCV.out]⟩, (HF3.out.setCell (p := ⟨w.heap.size + 1 + 1, 0, none⟩) (by simp only; omega) _).setCell (p := ⟨w.heap.size + 1 + 1, 1, none⟩) (by simp only; omega) _⟩
        · obtain ⟨y1, y2, y3⟩ := cmpF_no (show ¬ (m : Int) = (tl : Int) by omega)
          have HRES := Lib.hid (show res = false from HB.out (.inr (by rw [HTL.out, List.length_map, HM.out]; exact hlen)))
          have c0 := ((Fut.refl w).alloc (.cells #[.int .i64 N, .slice (some ⟨b, o, none⟩) n c] 24)).cell c0
          have c1 := ((Fut.refl w).alloc (.cells #[.int .i64 N, .slice (some ⟨b, o, none⟩) n c] 24)).cell c1
          have c2 := ((Fut.refl w).alloc (.cells #[.int .i64 N, .slice (some ⟨b, o, none⟩) n c] 24)).cell c2
          have c3 := ((Fut.refl w).alloc (.cells #[.int .i64 N, .slice (some ⟨b, o, none⟩) n c] 24)).cell c3
          have c4 := ((Fut.refl w).alloc (.cells #[.int .i64 N, .slice (some ⟨b, o, none⟩) n c] 24)).cell c4
          go_enter Try.func28, Try.ntmps28
          go_wp2_with fail
          obtain ⟨wz, hwz⟩ : ∃ wz, wz = (((w.alloc (.cells #[.int .i64 N, .slice (some ⟨b, o, none⟩) n c] 24)).alloc (.cells #[.int .i64 q, .slice B m d] 36)).alloc (.cells #[.int .i64 0, .int .i64 0] 46)).alloc (.cells #[.int .i64 xh, .slice xA tl xk, .int .i64 xc, .int .i64 xl0, .int .i64 xl1] 49) := ⟨_, rfl⟩
          have HZX := Lib.hid (show Blk wz (w.heap.size + 1 + 1) 46 #[.int .i64 0, .int .i64 0] from by rw [hwz]; (repeat (first | exact heap_new' _ _ _ (by first | rfl | (simp only [World.size_alloc])) | refine (blk_alloc_lt _ _ _ (by first | omega | (simp only [World.size_alloc]; omega))).trans ?_)))
          have HFX := Lib.hid (show Fut w wz from by rw [hwz]; exact ((((Fut.refl w).alloc _).alloc _).alloc _).alloc _)
          rw [← hwz]
          refine bodyPost_ret (res_cell2 rval_res _ _ (w.heap.size + 1 + 1) _ _ _ _ rfl HZX.out Try.underlying46 rfl (by kernel_rfl)) rfl ?_
          exact ⟨⟨⟨0, 0⟩, by rw [HRES.out]; rfl, fun h => by rw [HRES.out] at h; cases h⟩, HFX.out⟩
      · obtain ⟨y1, y2, y3⟩ := cmpF_no (show ¬ xh = r from hr)
        have HRES := Lib.hid (show res = false from HB.out (.inl (by have := HO4.out.1; rw [Int.toNat_of_nonneg this]; exact hr)))
        have c0 := ((Fut.refl w).alloc (.cells #[.int .i64 N, .slice (some ⟨b, o, none⟩) n c] 24)).cell c0
        have c1 := ((Fut.refl w).alloc (.cells #[.int .i64 N, .slice (some ⟨b, o, none⟩) n c] 24)).cell c1
        have c2 := ((Fut.refl w).alloc (.cells #[.int .i64 N, .slice (some ⟨b, o, none⟩) n c] 24)).cell c2
        have c3 := ((Fut.refl w).alloc (.cells #[.int .i64 N, .slice (some ⟨b, o, none⟩) n c] 24)).cell c3
        have c4 := ((Fut.refl w).alloc (.cells #[.int .i64 N, .slice (some ⟨b, o, none⟩) n c] 24)).cell c4
        go_enter Try.func28, Try.ntmps28
        go_wp2_with fail
        obtain ⟨wz, hwz⟩ : ∃ wz, wz = (((w.alloc (.cells #[.int .i64 N, .slice (some ⟨b, o, none⟩) n c] 24)).alloc (.cells #[.int .i64 q, .slice B m d] 36)).alloc (.cells #[.int .i64 0, .int .i64 0] 46)).alloc (.cells #[.int .i64 xh, .slice xA tl xk, .int .i64 xc, .int .i64 xl0, .int .i64 xl1] 49) := ⟨_, rfl⟩
        have HZX := Lib.hid (show Blk wz (w.heap.size + 1 + 1) 46 #[.int .i64 0, .int .i64 0] from by rw [hwz]; (repeat (first | exact heap_new' _ _ _ (by first | rfl | (simp only [World.size_alloc])) | refine (blk_alloc_lt _ _ _ (by first | omega | (simp only [World.size_alloc]; omega))).trans ?_)))
        have HFX := Lib.hid (show Fut w wz from by rw [hwz]; exact ((((Fut.refl w).alloc _).alloc _).alloc _).alloc _)
        rw [← hwz]
        refine bodyPost_ret (res_cell2 rval_res _ _ (w.heap.size + 1 + 1) _ _ _ _ rfl HZX.out Try.underlying46 rfl (by kernel_rfl)) rfl ?_
        exact ⟨⟨⟨0, 0⟩, by rw [HRES.out]; rfl, fun h => by rw [HRES.out] at h; cases h⟩, HFX.out⟩
    · have HRES := Lib.hid (show PK.validD (EEs es) (.node e (k.map toDT)) r = false from validD_out (by rw [HL.out]; omega))
      have hout : e < 0 ∨ (0 ≤ e ∧ (n : Int) ≤ e) := by omega
      clear hin
      rcases hout with h1 | ⟨h1, h2⟩
      · go_enter Try.func28, Try.ntmps28
        go_wp2_with fail
        obtain ⟨wz, hwz⟩ : ∃ wz, wz = ((w.alloc (.cells #[.int .i64 N, .slice AA n c] 24)).alloc (.cells #[.int .i64 e, .slice B m d] 36)).alloc (.cells #[.int .i64 0, .int .i64 0] 46) := ⟨_, rfl⟩
        have HZX := Lib.hid (show Blk wz (w.heap.size + 1 + 1) 46 #[.int .i64 0, .int .i64 0] from by rw [hwz]; (repeat (first | exact heap_new' _ _ _ (by first | rfl | (simp only [World.size_alloc])) | refine (blk_alloc_lt _ _ _ (by first | omega | (simp only [World.size_alloc]; omega))).trans ?_)))
        have HFX := Lib.hid (show Fut w wz from by rw [hwz]; exact (((Fut.refl w).alloc _).alloc _).alloc _)
        rw [← hwz]
        refine bodyPost_ret (res_cell2 rval_res _ _ (w.heap.size + 1 + 1) _ _ _ _ rfl HZX.out Try.underlying46 rfl (by kernel_rfl)) rfl ?_
        exact ⟨⟨⟨0, 0⟩, by rw [HRES.out]; rfl, fun h => by rw [HRES.out] at h; cases h⟩, HFX.out⟩
      · go_enter Try.func28, Try.ntmps28
        go_wp2_with fail
        obtain ⟨wz, hwz⟩ : ∃ wz, wz = ((w.alloc (.cells #[.int .i64 N, .slice AA n c] 24)).alloc (.cells #[.int .i64 e, .slice B m d] 36)).alloc (.cells #[.int .i64 0, .int .i64 0] 46) := ⟨_, rfl⟩
        have HZX := Lib.hid (show Blk wz (w.heap.size + 1 + 1) 46 #[.int .i64 0, .int .i64 0] from by rw [hwz]; (repeat (first | exact heap_new' _ _ _ (by first | rfl | (simp only [World.size_alloc])) | refine (blk_alloc_lt _ _ _ (by first | omega | (simp only [World.size_alloc]; omega))).trans ?_)))
        have HFX := Lib.hid (show Fut w wz from by rw [hwz]; exact (((Fut.refl w).alloc _).alloc _).alloc _)
        rw [← hwz]
        refine bodyPost_ret (res_cell2 rval_res _ _ (w.heap.size + 1 + 1) _ _ _ _ rfl HZX.out Try.underlying46 rfl (by kernel_rfl)) rfl ?_
        exact ⟨⟨⟨0, 0⟩, by rw [HRES.out]; rfl, fun h => by rw [HRES.out] at h; cases h⟩, HFX.out⟩
end Go.Proofs.Ytoiffhoiklafhaa
