/-
  The law: no derivation is missing.
-/
import Derived.Test.YtajbmdjlfniofaaDoorQ28
namespace Go.Proofs.YtajbmdjlfniofaaDoor
open Go.RowKit Go.Deep PK
attribute [local go_sem] Oper.lit Oper.litS fut_fut fut_drew World.cell?_alloc_some
attribute [local go_sem] fut_base_drew
attribute [local go_sem] fld_v
set_option maxHeartbeats 12800000 in
set_option maxRecDepth 4000 in
theorem law_complete (N : Int) (A : Option Addr) (n c : Nat) (es : List EI) (root : Int) (d : DI) (w : World) (hl : es.length = n) (hn : n ≤ maxLen) (hR : RdE w A es) (hd : RdD w d) :
    Calls Tryd.prog 6 #[hv N A n c, .int .i64 root, dv d] w fun e w' => e = .returned (.bool true) ∧ Fut w w' := by
  obtain ⟨w0, hw0⟩ : ∃ w0, w0 = (w.alloc (.cells #[.int .i64 N, .slice A n c] 24)).alloc (.cells #[.int .i64 d.e, .slice d.A d.k.length d.c] 35) := ⟨_, rfl⟩
  have HF0 := Lib.hid (show Fut w w0 from by rw [hw0]; exact ((Fut.refl w).alloc _).alloc _)
  have HB0 := Lib.hid (show Blk w0 w.heap.size 24 #[.int .i64 N, .slice A n c] from by rw [hw0]; unfold Blk; (repeat (first | exact heap_new' _ _ _ (by first | rfl | (simp only [World.size_alloc])) | refine (blk_alloc_lt _ _ _ (by first | omega | (simp only [World.size_alloc]; omega))).trans ?_)))
  have HBD := Lib.hid (show Blk w0 (w.heap.size + 1) 35 #[.int .i64 d.e, .slice d.A d.k.length d.c] from by rw [hw0]; unfold Blk; (repeat (first | exact heap_new' _ _ _ (by first | rfl | (simp only [World.size_alloc])) | refine (blk_alloc_lt _ _ _ (by first | omega | (simp only [World.size_alloc]; omega))).trans ?_)))
  have HD := Lib.hid hd
  simp only [dv]
  have HR := Lib.hid hR
  have HL := Lib.hid hl
  have HN := Lib.hid hn
  clear hR hl hn hd
  go_enter Tryd.func6, Tryd.ntmps6
  go_wp2_with fail
  rw [← hw0]
  clear hw0
  refine (may_any N A n c es root w0 HL.out HN.out (HR.out.fut HF0.out)).mono ?_
  rintro r w1 ⟨⟨b, rfl, hb⟩, hf⟩
  have HM := Lib.hid hb
  have HF1 := Lib.hid hf
  clear hb hf
  cases b with
  | false =>
    go_wp2_with fail
    refine (awake_any _).mono ?_
    rintro r w2 ⟨rfl, hf⟩
    have HF2 := Lib.hid hf
    clear hf
    go_wp2_with fail
    go_returns
    exact ⟨rfl, HF0.out.trans (HF1.out.trans HF2.out)⟩
  | true =>
    obtain ⟨M, V, hm⟩ := HM.out rfl
    obtain rfl := hm.e
    obtain ⟨v, rfl⟩ : ∃ v : Nat, root = v := ⟨root.toNat, by have := hm.r0; omega⟩
    have hvM : v < M := by have := hm.r1; omega
    have HMO := Lib.hid hm
    have HVM := Lib.hid hvM
    have q0 := (HB0.out.fut HF1.out).cell (i := 0) rfl
    have q1 := (HB0.out.fut HF1.out).cell (i := 1) rfl
    have d0 := (HBD.out.fut HF1.out).cell (i := 0) rfl
    have d1 := (HBD.out.fut HF1.out).cell (i := 1) rfl
    clear hm hvM
    go_wp2_with fail
    refine (rdvalid_any M A n c es HL.out HN.out HMO.out.vd d (v : Int) w1 (HR.out.fut (HF0.out.trans HF1.out)) (HD.out.fut (HF0.out.trans HF1.out))).mono ?_
    rintro r w2 ⟨rfl, hb⟩
    have HF2 := Lib.hid (show Fut w1 w2 from hb)
    obtain ⟨vd, hvd⟩ : ∃ vd, PK.validD (EEs es) (toDT d) (v : Int) = vd := ⟨_, rfl⟩
    rw [hvd]
    have HVD := Lib.hid hvd
    clear hb hvd q0 q1 d0 d1
    cases vd with
    | false =>
      go_wp2_with fail
      refine (awake_any _).mono ?_
      rintro r w9 ⟨rfl, hf⟩
      have HF9 := Lib.hid (show Fut w2 w9 from hf)
      clear hf
      go_wp2_with fail
      go_returns
      exact ⟨rfl, HF0.out.trans (HF1.out.trans (HF2.out.trans HF9.out))⟩
    | true =>
      have q0 := (HB0.out.fut (HF1.out.trans HF2.out)).cell (i := 0) rfl
      have q1 := (HB0.out.fut (HF1.out.trans HF2.out)).cell (i := 1) rfl
      have d0 := (HBD.out.fut (HF1.out.trans HF2.out)).cell (i := 0) rfl
      have d1 := (HBD.out.fut (HF1.out.trans HF2.out)).cell (i := 1) rfl
      go_wp2_with fail
      refine (rdvalue_any M A n c es HL.out HN.out HMO.out.vd (fun e he => by have := HMO.out.tl e he; omega) d (v : Int) w2 HVD.out (HR.out.fut (HF0.out.trans (HF1.out.trans HF2.out))) (HD.out.fut (HF0.out.trans (HF1.out.trans HF2.out)))).mono ?_
      rintro r w3 ⟨rfl, hb⟩
      have HF3 := Lib.hid (HF2.out.trans (show Fut w2 w3 from hb))
      obtain ⟨vl, hvl⟩ : ∃ vl, val (EEs es) (toDT d) = vl := ⟨_, rfl⟩
      rw [hvl]
      have HVL := Lib.hid hvl
      clear hb hvl q0 q1 d0 d1
      obtain ⟨vc, vs⟩ := vl
      by_cases hinf : (1099511627776 : Int) ≤ vc
      · go_wp2_with fail
        refine (awake_any _).mono ?_
        rintro r w9 ⟨rfl, hf⟩
        have HF9 := Lib.hid (show Fut w3 w9 from hf)
        clear hf
        go_wp2_with fail
        go_returns
        exact ⟨rfl, HF0.out.trans (HF1.out.trans (HF3.out.trans HF9.out))⟩
      · have HFD := Lib.hid (show FinD (EEs es) v (toDT d) from ⟨HVD.out, by rw [HVL.out]; unfold INF; simp only; omega⟩)
        have q0 := (HB0.out.fut (HF1.out.trans HF3.out)).cell (i := 0) rfl
        have q1 := (HB0.out.fut (HF1.out.trans HF3.out)).cell (i := 1) rfl
        go_wp2_with fail
        refine (first_any M A n c es w3 HL.out HMO.out.n12 HMO.out.vd HMO.out.m8 HMO.out.tl V HMO.out.S HMO.out.s (HR.out.fut (HF0.out.trans (HF1.out.trans HF3.out))) v HVM.out 8 (by omega)).mono ?_
        rintro r w4 ⟨⟨oA, oc, ks, rfl, r1, r2, r3, r4, r5, -⟩, hb⟩
        have HK := Lib.hid (And.intro r1 (And.intro r2 (And.intro r3 (r5 (by omega)))))
        have HF4 := Lib.hid (HF3.out.trans (show Fut w3 w4 from hb))
        obtain ⟨m, hm⟩ : ∃ m, ks.length = m := ⟨_, rfl⟩
        have hm8 : (m : Int) ≤ 8 := by have := (r5 (by omega)).1; omega
        have HLK := Lib.hid hm
        rw [hm]
        have HFA := Lib.hid (HF0.out.trans (HF1.out.trans HF4.out))
        have HFB := Lib.hid (HB0.out.fut (HF1.out.trans HF4.out))
        have HFC := Lib.hid (HBD.out.fut (HF1.out.trans HF4.out))
        have h00 : ∀ i, i < 0 → ∀ x, ks[i]? = some x → ¬ cmpD (EEs es) (toDT x) (toDT d) = 0 := fun i h => by omega
        clear hb r1 r2 r3 r4 r5 q0 q1 hm hinf
        go_wp2_with fail
        go_loopw [8] (fun i wr => ∃ j : Nat, j ≤ m ∧ i = .int .i64 j ∧ Hid (∀ i, i < j → ∀ x, ks[i]? = some x → ¬ cmpD (EEs es) (toDT x) (toDT d) = 0) ∧ Fut w4 wr) (fun i _ => m - (intOf i).toNat)
        case atStart => exact ⟨0, Nat.zero_le _, rfl, Lib.hid h00, Fut.refl _⟩
        case round =>
          clear h00
          obtain ⟨j, hj, rfl, hall, hF⟩ := hrel
          have HF5 := Lib.hid hF
          have d0 := cell_fut ((HFC.out.fut hF).cell (i := 0) rfl)
          have d1 := cell_fut ((HFC.out.fut hF).cell (i := 1) rfl)
          have q0 := cell_fut ((HFB.out.fut hF).cell (i := 0) rfl)
          have q1 := cell_fut ((HFB.out.fut hF).cell (i := 1) rfl)
          by_cases hlt : j < m
          · obtain ⟨x, hx⟩ := get_lt HLK.out hlt
            obtain ⟨b, o, rfl, hc⟩ := HK.out.1 j x hx
            have HX := Lib.hid hx
            have hfd : FinD (EEs es) v (toDT x) := HK.out.2.2.1.fin (toDT x) (List.mem_map.2 ⟨x, List.mem_of_getElem? hx, rfl⟩)
            have HV := Lib.hid (fun w' (hf : Fut wr w') => rdvalid_any M A n c es HL.out HN.out HMO.out.vd x (v : Int) w' (HR.out.fut (HFA.out.trans (hF.trans hf))) ((HK.out.2.1 x (List.mem_of_getElem? hx)).fut (hF.trans hf)))
            have HC := Lib.hid (fun w' (hf : Fut wr w') => rdcmp_any M A n c es HL.out HN.out HMO.out.vd (fun e he => by have := HMO.out.tl e he; omega) x d (v : Int) w' hfd.1 HFD.out.1 (HR.out.fut (HFA.out.trans (hF.trans hf))) ((HK.out.2.1 x (List.mem_of_getElem? hx)).fut (hF.trans hf)) (HD.out.fut (HFA.out.trans (hF.trans hf))))
            rw [hfd.1] at HV
            have x0 := cell_fut (hF.cell (hc 0 _ (by decide) rfl))
            have x1 := cell_fut (hF.cell (hc 1 _ (by decide) rfl))
            simp only [Nat.add_zero] at x0
            obtain ⟨cc, hcc⟩ : ∃ cc, cmpD (EEs es) (toDT x) (toDT d) = cc := ⟨_, rfl⟩
            have HCC := Lib.hid hcc
            rw [hcc] at HC
            simp only [dv] at HC HV
            clear hx hfd hc hF hcc
            go_wp2_with fail
            have f0 : Fut wr wr.drew := (Fut.refl wr).drew
            refine wp_region_M o_emendatelaw31_KbestComplete_7 (by kernel_rfl) (by kernel_rfl) (by intro c a d v w h; cases d <;> exact h) ?_; unfold o_emendatelaw31_KbestComplete_7
            iterate 6 (refine wpF_h rfl rfl (fun K hK => ?_); go_simp; refine hK _ _ ?_; clear hK K)
            refine wpF_o rfl rfl (fun K hK => ?_)
            go_simp
            go_at_call 16
            refine (HV.out _ f0).mono ?_
            rintro r w5 ⟨rfl, hb⟩
            have f5 : Fut wr w5 := f0.trans hb
            refine hK _ _ (.inr hb) ?_
            clear hK K hb
            (refine wpF_h rfl rfl (fun K hK => ?_); go_simp; refine hK _ _ ?_; clear hK K)
            refine wpF_nil ?_
            go_wp2_with fail
            have hFx := HF5.out.trans f5
            clear d0 d1 q0 q1
            have d0 := cell_fut ((HFC.out.fut hFx).cell (i := 0) rfl)
            have d1 := cell_fut ((HFC.out.fut hFx).cell (i := 1) rfl)
            have q0 := cell_fut ((HFB.out.fut hFx).cell (i := 0) rfl)
            have q1 := cell_fut ((HFB.out.fut hFx).cell (i := 1) rfl)
            have y0 := cell_fut (f5.cell (x0 0 #[]))
            have y1 := cell_fut (f5.cell (x1 0 #[]))
            clear x0 x1 hFx
            have g0 : Fut w5 w5.drew := (Fut.refl w5).drew
            refine wp_region_M o_emendatelaw31_KbestComplete_9 (by kernel_rfl) (by kernel_rfl) (by intro c a d v w h; cases d <;> exact h) ?_; unfold o_emendatelaw31_KbestComplete_9
            iterate 6 (refine wpF_h rfl rfl (fun K hK => ?_); go_simp; refine hK _ _ ?_; clear hK K)
            refine wpF_o rfl rfl (fun K hK => ?_)
            go_simp
            go_at_call 18
            refine (HC.out _ (f5.trans g0)).mono ?_
            rintro r w6 ⟨rfl, hb⟩
            have f6 : Fut wr w6 := f5.trans (g0.trans hb)
            refine hK _ _ (.inr hb) ?_
            clear hK K hb
            by_cases hc0 : cc = 0
            · subst hc0
              (refine wpF_h rfl rfl (fun K hK => ?_); go_simp; refine hK _ _ ?_; clear hK K)
              refine wpF_nil ?_
              go_wp2_with fail
              refine (awake_any _).mono ?_
              rintro r w9 ⟨rfl, hf⟩
              have HF9 := Lib.hid (show Fut w6 w9 from hf)
              clear hf
              go_wp2_with fail
              go_returns
              exact ⟨rfl, HF0.out.trans (HF1.out.trans ((HF4.out.trans (HF5.out.trans f6)).trans HF9.out))⟩
            · obtain ⟨z1, z2, z3⟩ := cmpF_no hc0
              have HA := Lib.hid (show ∀ i, i < j + 1 → ∀ y, ks[i]? = some y → ¬ cmpD (EEs es) (toDT y) (toDT d) = 0 from fun i hi y hy => by
                rcases Nat.lt_or_ge i j with h | h
                · exact hall.out i h y hy
                · obtain rfl : i = j := by omega
                  rw [HX.out] at hy
                  rw [← Option.some.inj hy, HCC.out]; exact hc0)
              clear hc0
              (refine wpF_h rfl rfl (fun K hK => ?_); go_simp; refine hK _ _ ?_; clear hK K)
              refine wpF_nil ?_
              go_wp2_with fail
              exact ⟨⟨j + 1, by omega, by go_num, HA, HF5.out.trans f6⟩, by simp [intOf]; omega⟩
          · have hno : ¬ toDT d ∈ ks.map toDT := fun h => by
              obtain ⟨x, hx, he⟩ := List.mem_map.1 h
              obtain ⟨i, hi⟩ := List.getElem?_of_mem hx
              exact hall.out i (by have := (List.getElem?_eq_some_iff.1 hi).1; have := HLK.out; omega) x hi (by rw [he, cmpD_refl])
            have hgt : ∀ x ∈ ks.map toDT, cmpD (EEs es) x (toDT d) < 0 := by
              rcases HK.out.2.2.1.all _ HFD.out with h | h
              · exact absurd h hno
              · exact h
            have hm8' : m = 8 := by
              rcases HK.out.2.2.2.2 with h | h
              · have := HLK.out; omega
              · exact absurd (h _ HFD.out) hno
            subst hm8'
            obtain ⟨x, hx⟩ := get_lt HLK.out (show 7 < 8 by omega)
            obtain ⟨b, o, rfl, hc⟩ := HK.out.1 7 x hx
            have hfd : FinD (EEs es) v (toDT x) := HK.out.2.2.1.fin (toDT x) (List.mem_map.2 ⟨x, List.mem_of_getElem? hx, rfl⟩)
            have hcl := hgt (toDT x) (List.mem_map.2 ⟨x, List.mem_of_getElem? hx, rfl⟩)
            have HC := Lib.hid (fun w' (hf : Fut wr w') => rdcmp_any M A n c es HL.out HN.out HMO.out.vd (fun e he => by have := HMO.out.tl e he; omega) x d (v : Int) w' hfd.1 HFD.out.1 (HR.out.fut (HFA.out.trans (hF.trans hf))) ((HK.out.2.1 x (List.mem_of_getElem? hx)).fut (hF.trans hf)) (HD.out.fut (HFA.out.trans (hF.trans hf))))
            have x0 := cell_fut (hF.cell (hc 0 _ (by decide) rfl))
            have x1 := cell_fut (hF.cell (hc 1 _ (by decide) rfl))
            simp only [Nat.add_zero, Nat.reduceMul] at x0 x1
            simp only [dv] at HC
            generalize cmpD (EEs es) (toDT x) (toDT d) = cc at HC hcl
            have hcl2 : (cc < 0) = True := eq_true hcl
            have hj8 : j = 8 := by omega
            subst hj8
            clear hno hgt hx hfd hc hF hcl hlt hall hj
            go_wp2_with fail
            have f0 : Fut wr wr.drew := (Fut.refl wr).drew
            refine wp_region_M o_emendatelaw31_KbestComplete_11 (by kernel_rfl) (by kernel_rfl) (by intro c a d v w h; cases d <;> exact h) ?_; unfold o_emendatelaw31_KbestComplete_11
            refine wpF_o rfl rfl (fun K hK => ?_)
            go_simp
            go_at_call 11
            refine (awake_any _).mono ?_
            rintro r w5 ⟨rfl, hb⟩
            have f5 : Fut wr w5 := f0.trans hb
            refine hK _ _ (.inr hb) ?_
            clear hK K hb
            iterate 11 (refine wpF_h rfl rfl (fun K hK => ?_); go_simp; refine hK _ _ ?_; clear hK K)
            refine wpF_o rfl rfl (fun K hK => ?_)
            go_simp
            go_at_call 18
            refine (HC.out _ f5).mono ?_
            rintro r w6 ⟨rfl, hb⟩
            have f6 : Fut wr w6 := f5.trans hb
            refine hK _ _ (.inr hb) ?_
            clear hK K hb
            iterate 3 (refine wpF_h rfl rfl (fun K hK => ?_); go_simp; refine hK _ _ ?_; clear hK K)
            refine wpF_nil ?_
            go_wp2_with fail
            go_returns
            exact ⟨rfl, HFA.out.trans (HF5.out.trans f6)⟩
end Go.Proofs.YtajbmdjlfniofaaDoor
