/-
  Whether a derivation is a least one, as the reference has it; the law, walked.
-/
import Derived.Test.YtoiffhoiklafhaaF13b
import Derived.Test.YtoiffhoiklafhaaF12
namespace Go.Proofs.Ytoiffhoiklafhaa
open Go.RowKit Go.Deep PK
attribute [local go_sem] Oper.lit Oper.litS fut_fut fut_drew World.cell?_alloc_some
attribute [local go_sem] fut_base_drew
set_option maxHeartbeats 6400000 in
set_option maxRecDepth 4000 in
theorem rcont_any (N : Nat) (A : Option Addr) (n c : Nat) (es : List EI) (r : Int) (d : DI) (w : World) (V : Nat → VV) (hS : Sol (EEs es) V) (hl : es.length = n) (hn : n ≤ 1000) (hvd : validB N es = true) (htl : ∀ e ∈ es, e.t.length ≤ 4) (hR : RdE w A es) (hD : RdD w d) (hsd : sizD (toDT d) ≤ 500) :
    Calls Try.prog 22 #[hv N A n c, .int .i64 r, dv d] w fun x w' => x = .returned (.bool (isL N V es r (toDT d))) ∧ Below w.heap.size w w' := by
  have HSO := Lib.hid hS
  have hn63 : n ≤ maxLen := by unfold maxLen; omega
  have htl' : ∀ e ∈ es, e.t.length ≤ 1000000 := fun e he => by have := htl e he; omega
  have HSV := Lib.hid (fun w' (hf : Fut w w') => rsolve_any N A n c es w' hl (by omega) hvd htl' (hR.fut hf))
  have HVL := Lib.hid (fun w' (hf : Fut w w') => rvalue_any N A n c es hl hn63 hvd htl d r 500 w' hsd (by decide) (hR.fut hf) (hD.fut hf))
  clear hS hl hn hvd htl hR hD hn63 htl' hsd
  have HIS := Lib.hid (show isL N V es r (toDT d) = ((decide (0 ≤ r) && decide (r < N)) && (PK.validD (EEs es) (toDT d) r && (decide ((val (EEs es) (toDT d)).c < INF) && decide (val (EEs es) (toDT d) = V r.toNat)))) from rfl)
  obtain ⟨de, dA, dc, dk⟩ := d
  generalize toDT (.node de dA dc dk) = td at *
  simp only [dv, DI.e, DI.A, DI.c, DI.k] at HVL ⊢
  obtain ⟨dn, hdn⟩ : ∃ dn, dn = dk.length := ⟨_, rfl⟩
  rw [← hdn] at HVL ⊢
  clear hdn
  generalize isL N V es r td = il at *
  obtain ⟨wb, hwb⟩ : ∃ wb, wb = (w.alloc (.cells #[.int .i64 N, .slice A n c] 24)).alloc (.cells #[.int .i64 de, .slice dA dn dc] 36) := ⟨_, rfl⟩
  have HF := Lib.hid (show Fut w wb from by rw [hwb]; exact ((Fut.refl w).alloc _).alloc _)
  have HB := Lib.hid (show Blk wb w.heap.size 24 #[.int .i64 N, .slice A n c] from by rw [hwb]; (repeat (first | exact heap_new' _ _ _ (by first | rfl | (simp only [World.size_alloc])) | refine (blk_alloc_lt _ _ _ (by first | omega | (simp only [World.size_alloc]; omega))).trans ?_)))
  go_enter Try.func22, Try.ntmps22
  have hr3 : (0 ≤ r ∧ r < N) ∨ r < 0 ∨ (0 ≤ r ∧ (N : Int) ≤ r) := by omega
  rcases hr3 with ⟨hr0, hr1⟩ | hr0 | ⟨hr0, hr1⟩
  · obtain ⟨rt, rfl⟩ : ∃ rt : Nat, r = rt := ⟨r.toNat, by omega⟩
    have hrt : rt < N := by omega
    have HIL := Lib.hid (show il = (PK.validD (EEs es) td (rt : Int) && (decide ((val (EEs es) td).c < INF) && decide (val (EEs es) td = V rt))) from by rw [HIS.out, decide_eq_true hr0, decide_eq_true hr1]; rfl)
    go_wp2_with fail
    rw [← hwb]
    clear hwb
    refine (HVL.out _ HF.out).mono ?_
    rintro x w1 ⟨⟨⟨yc, ys⟩, rfl, hav⟩, hb⟩
    have f3 := (Fut.refl w1).alloc (.cells #[.int .i64 yc, .int .i64 ys] 46)
    have HF1 := Lib.hid ((show Fut wb w1 from hb).trans f3)
    have HBY := Lib.hid (show Blk (w1.alloc (.cells #[.int .i64 yc, .int .i64 ys] 46)) w1.heap.size 46 #[.int .i64 yc, .int .i64 ys] from heap_new' _ _ _ rfl)
    have HAV := Lib.hid hav
    obtain ⟨vd, hvd⟩ : ∃ vd, PK.validD (EEs es) td (rt : Int) = vd := ⟨_, rfl⟩
    have HVD := Lib.hid hvd
    rw [hvd]
    have q0 := (HB.out.fut HF1.out).cell (i := 0) rfl
    have q1 := (HB.out.fut HF1.out).cell (i := 1) rfl
    clear hb hvd HVL hav f3
    go_wp2_with fail
    generalize w1.alloc (.cells #[.int .i64 yc, .int .i64 ys] 46) = w2 at *
    refine (HSV.out _ (HF.out.trans HF1.out)).mono ?_
    rintro x w4 ⟨⟨V', vb, eb0, rfl, hsol, hrow, _, _, _⟩, hb⟩
    obtain rfl := HSO.out.unique hsol
    have f4 : Fut w2 w4 := hb
    have HFX := Lib.hid (HF1.out.trans f4)
    have HRX := Lib.hid hrow
    have t0 := cell_fut ((HBY.out.fut f4).cell (i := 0) rfl)
    have t1 := cell_fut ((HBY.out.fut f4).cell (i := 1) rfl)
    have t3 := cell_fut (hrow.c hrt)
    have t4 := cell_fut (hrow.s hrt)
    clear hb hsol hrow HSV q0 q1 f4
    obtain ⟨zc, hzc⟩ : ∃ z, z = (V rt).c := ⟨_, rfl⟩
    obtain ⟨zs, hzs⟩ : ∃ z, z = (V rt).s := ⟨_, rfl⟩
    rw [← hzc] at t3
    rw [← hzs] at t4
    have HZ := Lib.hid (show V rt = ⟨zc, zs⟩ from by rw [hzc, hzs])
    clear hzc hzs
    go_wp2_with fail
    cases vd with
    | false =>
      have HIL2 := Lib.hid (show il = false from by rw [HIL.out, HVD.out]; rfl)
      refine wp_region_M o_emendateref32_Contains_5 (by kernel_rfl) (by kernel_rfl) (by intro c a d v w h; cases d <;> exact h) ?_; unfold o_emendateref32_Contains_5
      iterate 2 (refine wpF_h rfl rfl (fun K hK => ?_); go_simp; refine hK _ _ ?_; clear hK K)
      iterate 3 (refine wpF_hs2 rfl rfl (fun K hK => ?_); go_simp; refine hK _ _ ?_; clear hK K)
      iterate 2 (refine wpF_h rfl rfl (fun K hK => ?_); go_simp; refine hK _ _ ?_; clear hK K)
      iterate 6 (refine wpF_hs2 rfl rfl (fun K hK => ?_); go_simp; refine hK _ _ ?_; clear hK K)
      iterate 2 (refine wpF_h rfl rfl (fun K hK => ?_); go_simp; refine hK _ _ ?_; clear hK K)
      refine wpF_nil ?_
      go_wp2_with fail
      go_ret
      exact ⟨by rw [HIL2.out]; rfl, HF.out.trans HFX.out.drew⟩
    | true =>
      have HZI := Lib.hid (show il = (decide (yc < INF) && decide ((⟨yc, ys⟩ : VV) = ⟨zc, zs⟩)) from by
        rw [HIL.out, HVD.out, ← HAV.out HVD.out, HZ.out]; rfl)
      by_cases hfin : yc < 1099511627776
      · have HFN := Lib.hid (show yc < INF from hfin)
        have hd : Hid (yc = zc ∧ ys = zs) ∨ (Hid (¬ ys = zs) ∧ Hid (yc = zc)) ∨ Hid (¬ yc = zc) := by
          by_cases h1 : yc = zc
          · by_cases h2 : ys = zs
            · exact .inl (Lib.hid ⟨h1, h2⟩)
            · exact .inr (.inl ⟨Lib.hid h2, Lib.hid h1⟩)
          · exact .inr (.inr (Lib.hid h1))
        rcases hd with hd | ⟨hd, hd2⟩ | hd
        · have k1 : (yc = zc) = True := eq_true hd.out.1
          have k2 : (ys = zs) = True := eq_true hd.out.2
          have HIL2 := Lib.hid (show il = true from by rw [HZI.out, decide_eq_true HFN.out]; simp [hd.out.1, hd.out.2])
          refine wp_region_M o_emendateref32_Contains_5 (by kernel_rfl) (by kernel_rfl) (by intro c a d v w h; cases d <;> exact h) ?_; unfold o_emendateref32_Contains_5
          iterate 15 (refine wpF_h rfl rfl (fun K hK => ?_); go_simp; refine hK _ _ ?_; clear hK K)
          refine wpF_nil ?_
          go_wp2_with fail
          go_ret
          exact ⟨by rw [HIL2.out]; simp, HF.out.trans HFX.out.drew⟩
        · have k1 : (yc = zc) = True := eq_true hd2.out
          have k2 : (ys = zs) = False := eq_false hd.out
          have HIL2 := Lib.hid (show il = false from by rw [HZI.out, decide_eq_true HFN.out]; simp [hd.out])
          refine wp_region_M o_emendateref32_Contains_5 (by kernel_rfl) (by kernel_rfl) (by intro c a d v w h; cases d <;> exact h) ?_; unfold o_emendateref32_Contains_5
          iterate 15 (refine wpF_h rfl rfl (fun K hK => ?_); go_simp; refine hK _ _ ?_; clear hK K)
          refine wpF_nil ?_
          go_wp2_with fail
          go_ret
          exact ⟨by rw [HIL2.out]; simp, HF.out.trans HFX.out.drew⟩
        · have k1 : (yc = zc) = False := eq_false hd.out
          have HIL2 := Lib.hid (show il = false from by rw [HZI.out, decide_eq_true HFN.out]; simp [hd.out])
          refine wp_region_M o_emendateref32_Contains_5 (by kernel_rfl) (by kernel_rfl) (by intro c a d v w h; cases d <;> exact h) ?_; unfold o_emendateref32_Contains_5
          iterate 15 (refine wpF_h rfl rfl (fun K hK => ?_); go_simp; refine hK _ _ ?_; clear hK K)
          refine wpF_nil ?_
          go_wp2_with fail
          go_ret
          exact ⟨by rw [HIL2.out]; simp, HF.out.trans HFX.out.drew⟩
      · have HIL2 := Lib.hid (show il = false from by rw [HZI.out, decide_eq_false (show ¬ yc < INF from hfin)]; rfl)
        refine wp_region_M o_emendateref32_Contains_5 (by kernel_rfl) (by kernel_rfl) (by intro c a d v w h; cases d <;> exact h) ?_; unfold o_emendateref32_Contains_5
        iterate 7 (refine wpF_h rfl rfl (fun K hK => ?_); go_simp; refine hK _ _ ?_; clear hK K)
        iterate 6 (refine wpF_hs2 rfl rfl (fun K hK => ?_); go_simp; refine hK _ _ ?_; clear hK K)
        iterate 2 (refine wpF_h rfl rfl (fun K hK => ?_); go_simp; refine hK _ _ ?_; clear hK K)
        refine wpF_nil ?_
        go_wp2_with fail
        go_ret
        exact ⟨by rw [HIL2.out]; rfl, HF.out.trans HFX.out.drew⟩
  · have HIL := Lib.hid (show il = false from by rw [HIS.out, decide_eq_false (show ¬ 0 ≤ r by omega)]; rfl)
    go_wp2_with fail
    rw [← hwb]
    go_ret
    exact ⟨by rw [HIL.out]; rfl, HF.out⟩
  · have HIL := Lib.hid (show il = false from by rw [HIS.out, decide_eq_false (show ¬ r < N by omega), Bool.and_false]; rfl)
    go_wp2_with fail
    rw [← hwb]
    go_ret
    exact ⟨by rw [HIL.out]; rfl, HF.out⟩
set_option maxHeartbeats 12800000 in
set_option maxRecDepth 4000 in
theorem law_fcont (N : Int) (A : Option Addr) (n c : Nat) (es : List EI) (r : Int) (d : DI) (w : World) (hl : es.length = n) (hn : n ≤ maxLen) (hR : RdE w A es) (hD : RdD w d) :
    Calls Try.prog 5 #[hv N A n c, .int .i64 r, dv d] w fun e w' => e = .returned (.bool true) ∧ Below w.heap.size w w' := by
  have HL := Lib.hid hl
  have HR := Lib.hid hR
  have HBO := Lib.hid (fun w' (hf : Fut w w') => bounded_any N A n c es w' hl hn (hR.fut hf))
  have HDR := Lib.hid hD
  have HFW := Lib.hid (fun w' (hf : Fut w w') => few_any d w' (hD.fut hf))
  obtain ⟨td, htd⟩ : ∃ td, toDT d = td := ⟨_, rfl⟩
  have HTD := Lib.hid htd
  rw [htd] at HFW
  obtain ⟨D, hD2⟩ : ∃ D, D = d := ⟨_, rfl⟩
  have HDD := Lib.hid hD2
  obtain ⟨de, dA, dc, dk⟩ := d
  obtain ⟨dn, hdn⟩ : ∃ dn, dk.length = dn := ⟨_, rfl⟩
  have HDV := Lib.hid (show dv D = .agg #[.int .i64 de, .slice dA dn dc] from by rw [hD2, ← hdn]; rfl)
  simp only [dv, DI.e, DI.A, DI.c, DI.k, hdn] at HFW ⊢
  clear hD htd hD2 hdn
  clear hl hn hR
  obtain ⟨wb, hwb⟩ : ∃ wb, wb = (w.alloc (.cells #[.int .i64 N, .slice A n c] 24)).alloc (.cells #[.int .i64 de, .slice dA dn dc] 36) := ⟨_, rfl⟩
  have HF := Lib.hid (show Fut w wb from by rw [hwb]; exact ((Fut.refl w).alloc _).alloc _)
  have HB := Lib.hid (show Blk wb w.heap.size 24 #[.int .i64 N, .slice A n c] from by rw [hwb]; (repeat (first | exact heap_new' _ _ _ (by first | rfl | (simp only [World.size_alloc])) | refine (blk_alloc_lt _ _ _ (by first | omega | (simp only [World.size_alloc]; omega))).trans ?_)))
  have HD := Lib.hid (show Blk wb (w.heap.size + 1) 36 #[.int .i64 de, .slice dA dn dc] from by rw [hwb]; (repeat (first | exact heap_new' _ _ _ (by first | rfl | (simp only [World.size_alloc])) | refine (blk_alloc_lt _ _ _ (by first | omega | (simp only [World.size_alloc]; omega))).trans ?_)))
  go_enter Try.func5, Try.ntmps5
  go_wp2_with fail
  rw [← hwb]
  clear hwb
  refine (HBO.out _ HF.out).mono ?_
  rintro x w1 ⟨⟨bo, rfl, hbo⟩, hb⟩
  have HF1 := Lib.hid (show Fut wb w1 from hb)
  have HBT := Lib.hid hbo
  clear hb hbo HBO
  cases bo with
  | false =>
    go_wp2_with fail
    refine (awake_any _).mono ?_
    rintro x w2 ⟨rfl, hb⟩
    have HF2 := Lib.hid (HF1.out.trans (show Fut w1 w2 from hb))
    clear hb
    go_wp2_with fail
    go_ret
    exact ⟨rfl, HF.out.trans HF2.out⟩
  | true =>
    obtain ⟨M, V, rfl, hsm, hsol, hsz⟩ := HBT.out rfl
    obtain ⟨h1, h2, h3, h4⟩ := smallB_parts hsm
    have HSO := Lib.hid hsol
    have HSZ := Lib.hid hsz
    have HVD := Lib.hid h4
    have HTL := Lib.hid h3
    have HSM := Lib.hid hsm
    have hM : M ≤ 30 := by omega
    have hM1 : 1 ≤ M := by have := (validB_parts h4).1; omega
    have hn60 : n ≤ 60 := by have := HL.out; omega
    clear h1 h2 h3 h4 hsm hsol hsz HBT
    have d0 := (HD.out.fut HF1.out).cell (i := 0) rfl
    have d1 := (HD.out.fut HF1.out).cell (i := 1) rfl
    go_wp2_with fail
    refine (HFW.out _ (HF.out.trans HF1.out)).mono ?_
    rintro x wz ⟨rfl, hb⟩
    have HF2 := Lib.hid (HF1.out.trans (show Fut w1 wz from hb))
    obtain ⟨fw, hfw⟩ : ∃ fw, decide (0 ≤ leftF td 0 201) = fw := ⟨_, rfl⟩
    have HFE := Lib.hid hfw
    rw [hfw]
    clear hb hfw d0 d1 HFW
    cases fw with
    | false =>
      go_wp2_with fail
      refine (awake_any _).mono ?_
      rintro x w3 ⟨rfl, hb⟩
      have HF3 := Lib.hid (HF2.out.trans (show Fut wz w3 from hb))
      clear hb
      go_wp2_with fail
      go_ret
      exact ⟨rfl, HF.out.trans HF3.out⟩
    | true =>
      have HSD := Lib.hid (show sizD (toDT D) ≤ 500 from by
        have h1 := few_size (of_decide_eq_true HFE.out)
        rw [← HTD.out, ← HDD.out] at h1
        omega)
      have HRD := Lib.hid (show RdD w D from by rw [HDD.out]; exact HDR.out)
      have HC1 := Lib.hid (fun w' (hf : Fut w w') => fcont_any M A n c es r D w' V HSO.out HL.out (by omega) HVD.out HTL.out (HR.out.fut hf) (HRD.out.fut hf))
      have HC2 := Lib.hid (fun w' (hf : Fut w w') => rcont_any M A n c es r D w' V HSO.out HL.out (by omega) HVD.out HTL.out (HR.out.fut hf) (HRD.out.fut hf) HSD.out)
      rw [HDV.out] at HC1 HC2
      generalize isL M V es r (toDT D) = z at HC1 HC2
      have q0 := cell_fut ((HB.out.fut HF2.out).cell (i := 0) rfl)
      have q1 := cell_fut ((HB.out.fut HF2.out).cell (i := 1) rfl)
      have d0 := cell_fut ((HD.out.fut HF2.out).cell (i := 0) rfl)
      have d1 := cell_fut ((HD.out.fut HF2.out).cell (i := 1) rfl)
      go_wp2_with fail
      have f1 : Fut wz wz.drew := (Fut.refl wz).drew
      refine wp_region_M o_emendatelaw32_ForestContains_3 (by kernel_rfl) (by kernel_rfl) (by intro c a d v w h; cases d <;> exact h) ?_; unfold o_emendatelaw32_ForestContains_3
      refine wpF_o rfl rfl (fun K hK => ?_)
      go_simp
      go_at_call 13
      refine (awake_any _).mono ?_
      rintro x w2 ⟨rfl, hb⟩
      have f2 : Fut wz w2 := f1.trans hb
      refine hK _ _ (.inr hb) ?_
      clear hK K hb
      iterate 7 (refine wpF_h rfl rfl (fun K hK => ?_); go_simp; refine hK _ _ ?_; clear hK K)
      refine wpF_o rfl rfl (fun K hK => ?_)
      go_simp
      go_at_call 21
      refine (HC1.out _ ((HF.out.trans HF2.out).trans f2)).mono ?_
      rintro x w3 ⟨rfl, hb⟩
      have f3 : Fut wz w3 := f2.trans hb
      refine hK _ _ (.inr hb) ?_
      clear hK K hb
      refine wpF_o rfl rfl (fun K hK => ?_)
      go_simp
      go_at_call 22
      refine (HC2.out _ ((HF.out.trans HF2.out).trans f3)).mono ?_
      rintro x w4 ⟨rfl, hb⟩
      have f4 : Fut wz w4 := f3.trans hb
      refine hK _ _ (.inr hb) ?_
      clear hK K hb
      iterate 3 (refine wpF_h rfl rfl (fun K hK => ?_); go_simp; refine hK _ _ ?_; clear hK K)
      refine wpF_nil ?_
      go_wp2_with fail
      go_ret
      exact ⟨rfl, HF.out.trans (HF2.out.trans f4)⟩
end Go.Proofs.Ytoiffhoiklafhaa
