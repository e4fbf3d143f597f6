/-
  The law of the best derivation, walked.
-/
import Derived.Test.YtoiffhoiklafhaaF14
import Derived.Test.YtoiffhoiklafhaaD12
namespace Go.Proofs.Ytoiffhoiklafhaa
open Go.RowKit Go.Deep PK
attribute [local go_sem] Oper.lit Oper.litS fut_fut fut_drew World.cell?_alloc_some
attribute [local go_sem] fut_base_drew
theorem cnt_inf {V : Nat → VV} {es : List EI} {v : Nat} (h : INF ≤ (V v).c) : cnt V es v = 0 := by
  show cntN V es _ v = 0
  unfold cntN
  rw [List.filter_eq_nil_iff.2 (fun e _ => ?_)]
  · rfl
  · by_cases hv : e.h.toNat = v
    · have : tgt V e = false := by
        unfold tgt
        rw [hv, decide_eq_false (show ¬ (V v).c < INF by omega)]; rfl
      rw [this]; simp
    · simp [hv]
theorem isL_inf {N : Nat} {V : Nat → VV} {es : List EI} {v : Nat} {d : PK.DT} (h : INF ≤ (V v).c) : isL N V es (v : Int) d = false := by
  unfold isL
  rw [Int.toNat_natCast]
  by_cases h1 : val (EEs es) d = V v
  · rw [h1, decide_eq_false (show ¬ (V v).c < INF by omega)]; simp
  · rw [decide_eq_false h1]; simp
theorem isL_fol {N : Nat} {V : Nat → VV} {es : List EI} {v : Nat} {d : PK.DT} (hv : v < N) (hes : ∀ e ∈ EEs es, PK.okE e) (hS : Sol (EEs es) V) (h : (V v).c < INF) (hf : Fol V (EEs es) v d) : isL N V es (v : Int) d = true := by
  obtain ⟨h1, h2⟩ := Fol.good hes hS h hf
  unfold isL
  rw [Int.toNat_natCast, h1, h2, decide_eq_true h]
  simp
  omega
set_option maxHeartbeats 12800000 in
set_option maxRecDepth 4000 in
theorem law_fbest (N : Int) (A : Option Addr) (n c : Nat) (es : List EI) (v8 : Int) (w : World) (hl : es.length = n) (hn : n ≤ maxLen) (hR : RdE w A es) (v8l : 0 ≤ v8) (v8h : v8 ≤ 255) :
    Calls Try.prog 11 #[hv N A n c, .int .u8 v8] w fun e w' => e = .returned (.bool true) ∧ Below w.heap.size w w' := by
  have HL := Lib.hid hl
  have HR := Lib.hid hR
  have HBO := Lib.hid (fun w' (hf : Fut w w') => bounded_any N A n c es w' hl hn (hR.fut hf))
  clear hl hn hR
  obtain ⟨wb, hwb⟩ : ∃ wb, wb = w.alloc (.cells #[.int .i64 N, .slice A n c] 24) := ⟨_, rfl⟩
  have HF := Lib.hid (show Fut w wb from by rw [hwb]; exact (Fut.refl w).alloc _)
  have HB := Lib.hid (show Blk wb w.heap.size 24 #[.int .i64 N, .slice A n c] from by rw [hwb]; (repeat (first | exact heap_new' _ _ _ (by first | rfl | (simp only [World.size_alloc])) | refine (blk_alloc_lt _ _ _ (by first | omega | (simp only [World.size_alloc]; omega))).trans ?_)))
  go_enter Try.func11, Try.ntmps11
  go_wp2_with fail
  rw [← hwb]
  clear hwb
  refine (HBO.out _ HF.out).mono ?_
  rintro x w1 ⟨⟨bo, rfl, hbo⟩, hb⟩
  have HF1 := Lib.hid (show Fut wb w1 from hb)
  have HBT := Lib.hid hbo
  clear hb hbo HBO
  cases bo with
  | false =>
    go_wp2_with fail
    refine (awake_any _).mono ?_
    rintro x w2 ⟨rfl, hb⟩
    have HF2 := Lib.hid (HF1.out.trans (show Fut w1 w2 from hb))
    clear hb
    go_wp2_with fail
    go_ret
    exact ⟨rfl, HF.out.trans HF2.out⟩
  | true =>
    obtain ⟨M, V, rfl, hsm, hsol, hsz⟩ := HBT.out rfl
    obtain ⟨h1, h2, h3, h4⟩ := smallB_parts hsm
    have HSO := Lib.hid hsol
    have HSZ := Lib.hid hsz
    have HVD := Lib.hid h4
    have HTL := Lib.hid h3
    have HSM := Lib.hid hsm
    have hM : M ≤ 30 := by omega
    have hM1 : 1 ≤ M := by have := (validB_parts h4).1; omega
    have hn60 : n ≤ 60 := by have := HL.out; omega
    clear h1 h2 h3 h4 hsm hsol hsz HBT
    have hwm : 0 ≤ v8 % (M : Int) ∧ v8 % (M : Int) < M := ⟨Int.emod_nonneg _ (by omega), Int.emod_lt_of_pos _ (by omega)⟩
    have q0 := (HB.out.fut HF1.out).cell (i := 0) rfl
    have q1 := (HB.out.fut HF1.out).cell (i := 1) rfl
    go_wp2_with fail
    obtain ⟨rt, hi⟩ : ∃ rt : Nat, v8 % (M : Int) = rt := ⟨(v8 % (M : Int)).toNat, by omega⟩
    rw [hi] at hwm ⊢
    have hrt : rt < M := by omega
    clear hi hwm
    have HS1 := Lib.hid (fun w' (hf : Fut w w') => rsolve_any M A n c es w' HL.out (by omega) HVD.out (fun e he => by have := HTL.out e he; omega) (HR.out.fut hf))
    have HC1 := Lib.hid (fun w' (hf : Fut w w') => fCount_any M A n c es rt w' V HSO.out HSZ.out HL.out (by omega) HVD.out HTL.out (HR.out.fut hf))
    have HC2 := Lib.hid (fun (d : DI) w' (hf : Fut w w') (hd : RdD w' d) => fcont_any M A n c es rt d w' V HSO.out HL.out (by omega) HVD.out HTL.out (HR.out.fut hf) hd)
    have HBE := Lib.hid (fun w' (hf : Fut w w') => best_gen M A n c es HL.out (by unfold maxLen; omega) V rt (fun _ => ⟨by omega, fun e he => by have := HTL.out e he; omega, HSO.out, fun _ => HSZ.out _⟩) w' (HR.out.fut hf))
    clear q0 q1
    refine (HS1.out _ (HF.out.trans HF1.out)).mono ?_
    rintro x w2 ⟨⟨V', vb, eb0, rfl, hsol, hrow, _, _, _⟩, hb⟩
    obtain rfl := HSO.out.unique hsol
    have HF2 := Lib.hid (HF1.out.trans (show Fut w1 w2 from hb))
    have HRV := Lib.hid hrow
    have t1 := hrow.s hrt
    clear hb hsol hrow HS1
    by_cases hs2 : 200 < (V rt).s
    · go_wp2_with fail
      refine (awake_any _).mono ?_
      rintro x w3 ⟨rfl, hb⟩
      have HF3 := Lib.hid (HF2.out.trans (show Fut w2 w3 from hb))
      clear hb
      go_wp2_with fail
      go_ret
      exact ⟨rfl, HF.out.trans HF3.out⟩
    · have q0 := (HB.out.fut HF2.out).cell (i := 0) rfl
      have q1 := (HB.out.fut HF2.out).cell (i := 1) rfl
      go_wp2_with fail
      refine (HBE.out _ (HF.out.trans HF2.out)).mono ?_
      rintro x w3 ⟨⟨d, e, rfl, hrd, hbr⟩, hb⟩
      have HDR0 := Lib.hid hrd.rd
      have HBR := Lib.hid hbr
      have f3 : Fut w2 w3 := hb
      clear hb hrd hbr HBE t1 q0 q1 hs2
      obtain ⟨D, hDd⟩ : ∃ D, D = d := ⟨_, rfl⟩
      rw [← hDd] at HDR0 HBR ⊢
      obtain ⟨de, dA, dc, dk⟩ := d
      obtain ⟨dn, hdn⟩ : ∃ dn, dk.length = dn := ⟨_, rfl⟩
      have hdv : dv D = .agg #[.int .i64 de, .slice dA dn dc] := by rw [hDd, ← hdn]; rfl
      rw [hdv]
      have HDV := Lib.hid hdv
      have f4 : Fut w2 (w3.alloc (.cells #[.int .i64 de, .slice dA dn dc] 36)) := f3.alloc _
      have HF4 := Lib.hid (HF2.out.trans f4)
      have HBD := Lib.hid (show Blk (w3.alloc (.cells #[.int .i64 de, .slice dA dn dc] 36)) w3.heap.size 36 #[.int .i64 de, .slice dA dn dc] from heap_new' _ _ _ rfl)
      have HDR := Lib.hid (HDR0.out.fut ((Fut.refl w3).alloc (.cells #[.int .i64 de, .slice dA dn dc] 36)))
      have t0 := (HRV.out.fut f4).c hrt
      clear hDd hdn hdv f3 f4 HDR0
      rcases HBR.out with ⟨h1, _⟩ | ⟨_, h1, _⟩ | ⟨_, _, h1, rfl, _⟩ | ⟨_, _, h1, rfl, h2⟩
      · rw [HVD.out] at h1; cases h1
      · exact absurd ⟨by omega, by omega⟩ h1
      · rw [Int.toNat_natCast] at h1
        have hci : (V rt).c = 1099511627776 := by have h5 := (HSO.out.ok rt).2.1; unfold INF at h1 h5; omega
        have hcr : cntR M V es (rt : Int) = 0 := by unfold cntR; rw [Int.toNat_natCast, cnt_inf h1]; simp
        have HCD := Lib.hid (fun w' (hf : Fut w w') (hd : RdD w' D) => HC2.out D w' hf hd)
        rw [isL_inf h1, HDV.out] at HCD
        rw [hcr] at HC1
        rw [hci] at t0
        clear h1 hci hcr HC2 HBR
        go_wp2_with fail
        generalize w3.alloc (.cells #[.int .i64 de, .slice dA dn dc] 36) = w4 at *
        refine (awake_any _).mono ?_
        rintro x w5 ⟨rfl, hb⟩
        have f5 : Fut w4 w5 := hb
        have HF5 := Lib.hid (HF4.out.trans f5)
        have q0 := (HB.out.fut HF5.out).cell (i := 0) rfl
        have q1 := (HB.out.fut HF5.out).cell (i := 1) rfl
        clear hb t0
        go_wp2_with fail
        refine (HC1.out _ (HF.out.trans HF5.out)).mono ?_
        rintro x w6 ⟨rfl, hb⟩
        have f6 : Fut w4 w6 := f5.trans hb
        have HF6 := Lib.hid (HF4.out.trans f6)
        have q0 := (HB.out.fut HF6.out).cell (i := 0) rfl
        have q1 := (HB.out.fut HF6.out).cell (i := 1) rfl
        have d0 := (HBD.out.fut f6).cell (i := 0) rfl
        have d1 := (HBD.out.fut f6).cell (i := 1) rfl
        clear hb
        go_wp2_with fail
        refine (HCD.out _ (HF.out.trans HF6.out) (HDR.out.fut f6)).mono ?_
        rintro x w7 ⟨rfl, hb⟩
        have f7 : Fut w4 w7 := f6.trans hb
        clear hb q0 q1 d0 d1
        go_wp2_with fail
        go_ret
        exact ⟨rfl, HF.out.trans (HF4.out.trans f7)⟩
      · rw [Int.toNat_natCast] at h1 h2
        have hil := isL_fol (N := M) hrt (EEs_ok HVD.out) HSO.out h1 h2
        have HCD := Lib.hid (fun w' (hf : Fut w w') (hd : RdD w' D) => HC2.out D w' hf hd)
        rw [hil, HDV.out] at HCD
        have hnc : ¬ (1099511627776 : Int) ≤ (V rt).c := by unfold INF at h1; omega
        clear h1 h2 hil HC2 HBR
        go_wp2_with fail
        generalize w3.alloc (.cells #[.int .i64 de, .slice dA dn dc] 36) = w4 at *
        refine (awake_any _).mono ?_
        rintro x w5 ⟨rfl, hb⟩
        have f5 : Fut w4 w5 := hb
        have HF5 := Lib.hid (HF4.out.trans f5)
        have q0 := (HB.out.fut HF5.out).cell (i := 0) rfl
        have q1 := (HB.out.fut HF5.out).cell (i := 1) rfl
        have d0 := (HBD.out.fut f5).cell (i := 0) rfl
        have d1 := (HBD.out.fut f5).cell (i := 1) rfl
        clear hb t0
        go_wp2_with fail
        refine (HCD.out _ (HF.out.trans HF5.out) (HDR.out.fut f5)).mono ?_
        rintro x w7 ⟨rfl, hb⟩
        have f7 : Fut w4 w7 := f5.trans hb
        clear hb q0 q1 d0 d1
        go_wp2_with fail
        go_ret
        exact ⟨rfl, HF.out.trans (HF4.out.trans f7)⟩
end Go.Proofs.Ytoiffhoiklafhaa
