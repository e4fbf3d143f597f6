/-
  Bounded, in full; the law of the forest of a forest, walked.
-/
import Derived.Test.YtoiffhoiklafhaaF19p
namespace Go.Proofs.Ytoiffhoiklafhaa
open Go.RowKit Go.Deep PK
attribute [local go_sem] Oper.lit Oper.litS fut_fut fut_drew World.cell?_alloc_some
attribute [local go_sem] fut_base_drew
set_option maxHeartbeats 3200000 in
set_option maxRecDepth 4000 in
theorem bounded2_any (N : Int) (A : Option Addr) (n c : Nat) (es : List EI) (w : World) (hl : es.length = n) (hn : n ≤ maxLen) (hR : RdE w A es) :
    Calls Try.prog 12 #[hv N A n c] w fun x w' => (∃ b, x = .returned (.bool b) ∧ (b = true → ∃ (M : Nat) (V : Nat → VV), N = M ∧ smallB N es = true ∧ Sol (EEs es) V ∧ ∀ i, (V i).s < INF) ∧ (b = false → smallB N es = false ∨ ∃ V i, Sol (EEs es) V ∧ INF ≤ (V i).s)) ∧ Below w.heap.size w w' := by
  have HC1 := Lib.hid (fun w' (hf : Fut w w') => small_any N A n c es w' hl hn (hR.fut hf))
  have HL := Lib.hid hl
  have HR := Lib.hid hR
  clear hl hn hR
  have HB := Lib.hid (show Blk (w.alloc (.cells #[.int .i64 N, .slice A n c] 24)) w.heap.size 24 #[.int .i64 N, .slice A n c] from heap_new' _ _ _ rfl)
  have HF := Lib.hid (show Fut w (w.alloc (.cells #[.int .i64 N, .slice A n c] 24)) from (Fut.refl w).alloc _)
  go_enter Try.func12, Try.ntmps12
  go_wp2_with fail
  generalize w.alloc (.cells #[.int .i64 N, .slice A n c] 24) = wb at *
  refine (HC1.out _ HF.out).mono ?_
  rintro x w1 ⟨rfl, hb⟩
  have HF1 := Lib.hid (show Fut wb w1 from hb)
  clear hb
  obtain ⟨v, hv9⟩ : ∃ v, smallB N es = v := ⟨_, rfl⟩
  have HV := Lib.hid hv9
  rw [hv9]
  clear hv9
  have q0 := (HB.out.fut HF1.out).cell (i := 0) rfl
  have q1 := (HB.out.fut HF1.out).cell (i := 1) rfl
  cases v with
  | false =>
    go_wp2_with fail
    go_ret
    exact ⟨⟨false, rfl, fun h => (by cases h), fun _ => .inl HV.out⟩, HF.out.trans HF1.out⟩
  | true =>
    obtain ⟨h1, h2, h3, h4⟩ := smallB_parts HV.out
    obtain ⟨M, rfl⟩ : ∃ M : Nat, N = M := ⟨N.toNat, by have := (validB_parts h4).1; omega⟩
    have HVD := Lib.hid h4
    have hM : M ≤ 30 := by omega
    have HC2 := Lib.hid (fun w' (hf : Fut w w') => rsolve_any M A n c es w' HL.out (by have := HL.out; omega) h4 (fun e he => by have := h3 e he; omega) (HR.out.fut hf))
    clear h1 h2 h3 h4
    go_wp2_with fail
    refine (HC2.out _ (HF.out.trans HF1.out)).mono ?_
    rintro x w2 ⟨⟨V, vb, eb, rfl, hsol, hrow, _, _, _⟩, hb⟩
    have HF2 := Lib.hid (HF1.out.trans (show Fut w1 w2 from hb))
    have HSO := Lib.hid hsol
    have HRW := Lib.hid hrow
    clear hb q0 q1 hsol hrow
    go_wp2_with fail
    go_loopw [5] (fun i wr => ∃ j : Nat, j ≤ M ∧ i = .int .i64 j ∧ Hid (∀ k, k < j → (V k).s < INF) ∧ Hid (Fut w2 wr)) (fun i _ => M - (intOf i).toNat)
    case atStart => exact ⟨0, Nat.zero_le _, rfl, Lib.hid (fun k hk => by omega), Lib.hid (Fut.refl _)⟩
    case round =>
      obtain ⟨j, hj, rfl, HK, HFW⟩ := hrel
      have HFX := Lib.hid (HF2.out.trans HFW.out)
      by_cases hlt : j < M
      · have t1 := (HRW.out.fut HFW.out).s hlt
        by_cases hs : (V j).s < 1099511627776
        · have hs2 : ¬ (1099511627776 : Int) ≤ (V j).s := by omega
          have HS := Lib.hid (show (V j).s < INF from hs)
          clear hs
          go_wp2_with fail
          refine ⟨⟨j + 1, by omega, by go_num, Lib.hid (fun k hk => ?_), HFW⟩, by simp [intOf]; omega⟩
          by_cases e : k = j
          · subst e; exact HS.out
          · exact HK.out k (by omega)
        · have hs2 : (1099511627776 : Int) ≤ (V j).s := by omega
          clear hs
          go_wp2_with fail
          go_ret
          exact ⟨⟨false, rfl, fun h => (by cases h), fun _ => .inr ⟨V, j, HSO.out, hs2⟩⟩, HF.out.trans HFX.out⟩
      · have HAL := Lib.hid (show ∀ i, (V i).s < INF from fun i => by
          by_cases hi : i < M
          · exact HK.out i (by omega)
          · rw [sol_out HVD.out HSO.out (by omega)]; decide)
        go_wp2_with fail
        go_ret
        exact ⟨⟨true, rfl, fun _ => ⟨M, V, rfl, HV.out, HSO.out, HAL.out⟩, fun h => (by cases h)⟩, HF.out.trans HFX.out⟩
set_option maxHeartbeats 12800000 in
set_option maxRecDepth 4000 in
theorem law_fidem (N : Int) (A : Option Addr) (n c : Nat) (es : List EI) (v8 : Int) (w : World) (hl : es.length = n) (hn : n ≤ maxLen) (hR : RdE w A es) (v8l : 0 ≤ v8) (v8h : v8 ≤ 255) :
    Calls Try.prog 10 #[hv N A n c, .int .u8 v8] w fun e w' => e = .returned (.bool true) ∧ Below w.heap.size w w' := by
  have HL := Lib.hid hl
  have HR := Lib.hid hR
  have HBO := Lib.hid (fun w' (hf : Fut w w') => bounded_any N A n c es w' hl hn (hR.fut hf))
  clear hl hn hR
  obtain ⟨wb, hwb⟩ : ∃ wb, wb = w.alloc (.cells #[.int .i64 N, .slice A n c] 24) := ⟨_, rfl⟩
  have HF := Lib.hid (show Fut w wb from by rw [hwb]; exact (Fut.refl w).alloc _)
  have HB := Lib.hid (show Blk wb w.heap.size 24 #[.int .i64 N, .slice A n c] from by rw [hwb]; (repeat (first | exact heap_new' _ _ _ (by first | rfl | (simp only [World.size_alloc])) | refine (blk_alloc_lt _ _ _ (by first | omega | (simp only [World.size_alloc]; omega))).trans ?_)))
  go_enter Try.func10, Try.ntmps10
  go_wp2_with fail
  rw [← hwb]
  clear hwb
  refine (HBO.out _ HF.out).mono ?_
  rintro x w1 ⟨⟨bo, rfl, hbo⟩, hb⟩
  have HF1 := Lib.hid (show Fut wb w1 from hb)
  have HBT := Lib.hid hbo
  clear hb hbo HBO
  cases bo with
  | false =>
    go_wp2_with fail
    refine (awake_any _).mono ?_
    rintro x w2 ⟨rfl, hb⟩
    have HF2 := Lib.hid (HF1.out.trans (show Fut w1 w2 from hb))
    clear hb
    go_wp2_with fail
    go_ret
    exact ⟨rfl, HF.out.trans HF2.out⟩
  | true =>
    obtain ⟨M, V, rfl, hsm, hsol, hsz⟩ := HBT.out rfl
    obtain ⟨h1, h2, h3, h4⟩ := smallB_parts hsm
    have HSO := Lib.hid hsol
    have HSZ := Lib.hid hsz
    have HVD := Lib.hid h4
    have HTL := Lib.hid h3
    have HSM := Lib.hid hsm
    have hM : M ≤ 30 := by omega
    have hM1 : 1 ≤ M := by have := (validB_parts h4).1; omega
    have hn60 : n ≤ 60 := by have := HL.out; omega
    clear h1 h2 h3 h4 hsm hsol hsz HBT
    have HVP := Lib.hid (validB_parts HVD.out).2.2
    have hwm : 0 ≤ v8 % (M : Int) ∧ v8 % (M : Int) < M := ⟨Int.emod_nonneg _ (by omega), Int.emod_lt_of_pos _ (by omega)⟩
    have q0 := (HB.out.fut HF1.out).cell (i := 0) rfl
    have q1 := (HB.out.fut HF1.out).cell (i := 1) rfl
    go_wp2_with fail
    obtain ⟨rt, hi⟩ : ∃ rt : Nat, v8 % (M : Int) = rt := ⟨(v8 % (M : Int)).toNat, by omega⟩
    rw [hi] at hwm ⊢
    have hrt : rt < M := by omega
    clear hi hwm
    have HFT := Lib.hid (fun w' (hf : Fut w w') => fTight_any M A n c es rt w' V HSO.out HL.out (by omega) HVD.out HTL.out (HR.out.fut hf))
    have HC1 := Lib.hid (fun w' (hf : Fut w w') => fCount_any M A n c es rt w' V HSO.out HSZ.out HL.out (by omega) HVD.out HTL.out (HR.out.fut hf))
    obtain ⟨m, hm⟩ : ∃ m, (fP M V es (rt : Int)).length = m := ⟨_, rfl⟩
    have hml : (fE M V es (rt : Int)).length = m := by unfold fE; rw [List.length_map, hm]
    have hmn : m ≤ 1000 := by rw [← hml]; exact Nat.le_trans (fE_le M V es rt) (by have := HL.out; omega)
    have hm63 : m ≤ 9223372036854775807 := by omega
    have HVG := Lib.hid (forest_valid (r := (rt : Int)) (V := V) HVD.out)
    have HTG := Lib.hid (show ∀ e ∈ fE M V es (rt : Int), e.t.length ≤ 4 from fun e he => HTL.out e (mem_fE.1 he).1)
    have HRR := Lib.hid (show rchB M V es (rt : Int) rt = true from by
      have h1 := rchB_root (N := M) (V := V) (es := es) (r := (rt : Int)) (by omega) (by omega)
      rwa [Int.toNat_natCast] at h1)
    have HNN := Lib.hid (show ∀ e ∈ es, 0 ≤ e.h ∧ ∀ t ∈ e.t, 0 ≤ t from fun e he => ⟨(okE_parts (HVP.out e he)).1, fun t ht => ((okE_parts (HVP.out e he)).2.2.2.2 t ht).1⟩)
    have HB2 := Lib.hid (fun XA Xc w' (hr : RdE w' XA (fE M V es (rt : Int))) => bounded2_any M XA m Xc (fE M V es (rt : Int)) w' hml (by unfold maxLen; omega) hr)
    have HSG := Lib.hid (small_forest (V := V) (r := (rt : Int)) HSM.out)
    have HML := Lib.hid hml
    rw [hm] at HFT
    clear hm q0 q1
    refine (HFT.out _ (HF.out.trans HF1.out)).mono ?_
    rintro x w2 ⟨⟨XA, Xc, GA, Gc, rfl, hre, hrf⟩, hb⟩
    have f2 := (show Fut w1 w2 from hb).alloc (.cells #[.int .i64 M, .slice XA m Xc] 24)
    have HF2 := Lib.hid (HF1.out.trans f2)
    have HE2 := Lib.hid (hre.fut ((Fut.refl w2).alloc (.cells #[.int .i64 M, .slice XA m Xc] 24)))
    have HBG := Lib.hid (show Blk (w2.alloc (.cells #[.int .i64 M, .slice XA m Xc] 24)) w2.heap.size 24 #[.int .i64 M, .slice XA m Xc] from heap_new' _ _ _ rfl)
    clear hb hre hrf HFT f2
    go_wp2_with fail
    generalize w2.alloc (.cells #[.int .i64 M, .slice XA m Xc] 24) = wk at *
    refine (HB2.out XA Xc wk HE2.out).mono ?_
    rintro x w3 ⟨⟨b2, rfl, hbt, hbf⟩, hb⟩
    have f3 : Fut wk w3 := hb
    have HBF := Lib.hid hbf
    have HBT := Lib.hid hbt
    clear hb hbf hbt HB2
    cases b2 with
    | false =>
      rcases HBF.out rfl with h1 | ⟨W, i, h1, h2⟩
      · rw [HSG.out] at h1; cases h1
      · have := ff_size (EEs_ok HVD.out) HSO.out HSZ.out h1 HNN.out i
        omega
    | true =>
      obtain ⟨M2, W, hM2, _, hW, hsW⟩ := HBT.out rfl
      clear hM2 M2
      have HFF := Lib.hid (ff_fE (EEs_ok HVD.out) HSO.out HSZ.out hW HNN.out)
      have HFI := Lib.hid (ff_fI (EEs_ok HVD.out) HSO.out HSZ.out hW HNN.out)
      have HT2 := Lib.hid (fun w' (hr : RdE w' XA (fE M V es (rt : Int))) => fTight_any M XA m Xc (fE M V es (rt : Int)) rt w' W hW hml hmn HVG.out HTG.out hr)
      rw [show (fP M W (fE M V es (rt : Int)) (rt : Int)).length = m from by rw [ff_fP (EEs_ok HVD.out) HSO.out HSZ.out hW HNN.out, List.length_zipIdx]; exact hml, HFF.out, HFI.out, hml] at HT2
      have HC2 := Lib.hid (fun w' (hr : RdE w' XA (fE M V es (rt : Int))) => fCount_any M XA m Xc (fE M V es (rt : Int)) rt w' W hW hsW hml hmn HVG.out HTG.out hr)
      rw [show cntR M W (fE M V es (rt : Int)) (rt : Int) = cntR M V es (rt : Int) from by
        unfold cntR
        rw [Int.toNat_natCast, ff_cnt (EEs_ok HVD.out) HSO.out HSZ.out hW HNN.out HRR.out]] at HC2
      generalize cntR M V es (rt : Int) = z at HC1 HC2
      have HSA := Lib.hid (fun YA Yc w' (h1 : RdE w' XA (fE M V es (rt : Int))) (h2 : RdE w' YA (fE M V es (rt : Int))) => same_any (M : Int) XA YA m Xc Yc (fE M V es (rt : Int)) w' hml hmn HTG.out h1 h2)
      have g0 := (HBG.out.fut f3).cell (i := 0) rfl
      have g1 := (HBG.out.fut f3).cell (i := 1) rfl
      clear hW hsW hml HBF HBT HFF HFI
      go_wp2_with fail
      refine (HT2.out w3 (HE2.out.fut f3)).mono ?_
      rintro x w4 ⟨⟨YA, Yc, ZA, Zc, rfl, hre, hrf⟩, hb⟩
      have f4 : Fut wk (w4.alloc (.cells #[.int .i64 M, .slice YA m Yc] 24)) := (f3.trans hb).alloc _
      have HF4 := Lib.hid f4
      have HE4 := Lib.hid (hre.fut ((Fut.refl w4).alloc (.cells #[.int .i64 M, .slice YA m Yc] 24)))
      have HZ4 := Lib.hid (hrf.fut ((Fut.refl w4).alloc (.cells #[.int .i64 M, .slice YA m Yc] 24)))
      have HBY := Lib.hid (show Blk (w4.alloc (.cells #[.int .i64 M, .slice YA m Yc] 24)) w4.heap.size 24 #[.int .i64 M, .slice YA m Yc] from heap_new' _ _ _ rfl)
      clear hb hre hrf HT2 f3 f4 g0 g1
      go_wp2_with fail
      generalize w4.alloc (.cells #[.int .i64 M, .slice YA m Yc] 24) = wl at *
      go_loopw [10] (fun i wr => ∃ j : Nat, j ≤ m ∧ i = .int .i64 j ∧ Hid (Fut wl wr)) (fun i _ => m - (intOf i).toNat)
      case atStart => exact ⟨0, Nat.zero_le _, rfl, Lib.hid (Fut.refl _)⟩
      case round =>
        obtain ⟨j, hj, rfl, HFW⟩ := hrel
        by_cases hlt : j < m
        · obtain ⟨b4, o4, rfl, hcy⟩ := HZ4.out j j (List.getElem?_range hlt)
          have u0 := HFW.out.cell hcy
          clear hcy
          go_wp2_with fail
          exact ⟨⟨j + 1, by omega, by go_num, HFW⟩, by simp [intOf]; omega⟩
        · have HFK := Lib.hid (HF4.out.trans HFW.out)
          have HFZ := Lib.hid (HF2.out.trans HFK.out)
          have g0 := cell_fut ((HBG.out.fut HFK.out).cell (i := 0) rfl)
          have g1 := cell_fut ((HBG.out.fut HFK.out).cell (i := 1) rfl)
          have y0 := cell_fut ((HBY.out.fut HFW.out).cell (i := 0) rfl)
          have y1 := cell_fut ((HBY.out.fut HFW.out).cell (i := 1) rfl)
          have q0 := cell_fut ((HB.out.fut HFZ.out).cell (i := 0) rfl)
          have q1 := cell_fut ((HB.out.fut HFZ.out).cell (i := 1) rfl)
          go_wp2_with fail
          have f1 : Fut wr wr.drew := (Fut.refl wr).drew
          refine wp_region_M o_emendatelaw32_ForestIdempotent_13 (by kernel_rfl) (by kernel_rfl) (by intro c a d v w h; cases d <;> exact h) ?_; unfold o_emendatelaw32_ForestIdempotent_13
          refine wpF_o rfl rfl (fun K hK => ?_)
          go_simp
          go_at_call 13
          refine (awake_any _).mono ?_
          rintro x w2 ⟨rfl, hb⟩
          have f2 : Fut wr w2 := f1.trans hb
          refine hK _ _ (.inr hb) ?_
          clear hK K hb
          iterate 3 (refine wpF_h rfl rfl (fun K hK => ?_); go_simp; refine hK _ _ ?_; clear hK K)
          refine wpF_o rfl rfl (fun K hK => ?_)
          go_simp
          go_at_call 16
          refine (HSA.out YA Yc _ (HE2.out.fut (HFK.out.trans f2)) (HE4.out.fut (HFW.out.trans f2))).mono ?_
          rintro x w3 ⟨rfl, hb⟩
          have f3 : Fut wr w3 := f2.trans hb
          refine hK _ _ (.inr hb) ?_
          clear hK K hb
          iterate 6 (refine wpF_h rfl rfl (fun K hK => ?_); go_simp; refine hK _ _ ?_; clear hK K)
          refine wpF_o rfl rfl (fun K hK => ?_)
          go_simp
          go_at_call 18
          refine (HC2.out _ (HE2.out.fut (HFK.out.trans f3))).mono ?_
          rintro x w4 ⟨rfl, hb⟩
          have f4 : Fut wr w4 := f3.trans hb
          refine hK _ _ (.inr hb) ?_
          clear hK K hb
          refine wpF_o rfl rfl (fun K hK => ?_)
          go_simp
          go_at_call 18
          refine (HC1.out _ ((HF.out.trans HFZ.out).trans f4)).mono ?_
          rintro x w5 ⟨rfl, hb⟩
          have f5 : Fut wr w5 := f4.trans hb
          refine hK _ _ (.inr hb) ?_
          clear hK K hb
          iterate 3 (refine wpF_h rfl rfl (fun K hK => ?_); go_simp; refine hK _ _ ?_; clear hK K)
          refine wpF_nil ?_
          go_wp2_with fail
          go_ret
          exact ⟨rfl, HF.out.trans (HFZ.out.trans f5)⟩
end Go.Proofs.Ytoiffhoiklafhaa
