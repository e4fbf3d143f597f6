/-
  Validity of inputs, as the program and as the reference have it.
-/
import Derived.Test.YtagmpbgidooibaaC3
namespace Go.Proofs.Ytagmpbgidooibaa
open Go.RowKit
attribute [local go_sem] Oper.lit fut_fut fut_drew World.cell?_alloc_some
abbrev iv (A : Option Addr) (n c : Nat) (B : Option Addr) (m d : Nat) (s : Int) : Value := .agg #[.slice A n c, .slice B m d, .int .i64 s]
def validI (T : Int) (cs : List CC) (ins : List Int) (s : Int) : Bool := decide (0 ≤ T) && decide (cs.length ≤ 60) && decide ((ins.length : Int) = T) && (decide (s = 0) || lg s) && ins.all lg && cs.all (colB T)
theorem validI_iff (T : Int) (cs : List CC) (ins : List Int) (s : Int) : validI T cs ins s = true ↔ ((((0 ≤ T ∧ cs.length ≤ 60) ∧ (ins.length : Int) = T) ∧ (s = 0 ∨ lg s = true)) ∧ ins.all lg = true) ∧ cs.all (colB T) = true := by
  simp only [validI, Bool.and_eq_true, decide_eq_true_eq, Bool.or_eq_true]
theorem bnot {a : Bool} (h : ¬ a = true) : a = false := by cases a <;> simp_all
set_option maxHeartbeats 3200000 in
theorem valid_any (T : Int) (A : Option Addr) (n c : Nat) (cs : List CC) (B : Option Addr) (m d : Nat) (ins : List Int) (s : Int) (w : World) (hl : cs.length = n) (hn : n ≤ maxLen) (hR : RdC w A cs) (hil : ins.length = m) (hm : m ≤ maxLen) (hI : Rd1 w B (.int .i64 ·) ins) :
    Calls Try.prog 11 #[iv A n c B m d s, .int .i64 T] w fun e w' => e = .returned (.bool (validI T cs ins s)) ∧ Below w.heap.size w w' := by
  have HN := Lib.hid hn
  have HM := Lib.hid hm
  have hn' : n ≤ 9223372036854775807 := hn
  have hm' : m ≤ 9223372036854775807 := hm
  have HW := Lib.hid ((Fut.refl w).alloc (.cells #[.slice A n c, .slice B m d, .int .i64 s] 25))
  have q0 : ∀ dd os, (fut (w.alloc (.cells #[.slice A n c, .slice B m d, .int .i64 s] 25)) dd os).cell? ⟨w.heap.size, 0, none⟩ = some (.slice A n c) := cell_fut (by (repeat (first | exact (cell_al_new _ _ _ _ _ _ (by first | rfl | (simp only [World.size_alloc]))).trans rfl | refine (cell_al_old _ _ _ (by first | omega | (simp only [World.size_alloc]; omega))).trans ?_)))
  have q1 : ∀ dd os, (fut (w.alloc (.cells #[.slice A n c, .slice B m d, .int .i64 s] 25)) dd os).cell? ⟨w.heap.size, 1, none⟩ = some (.slice B m d) := cell_fut (by (repeat (first | exact (cell_al_new _ _ _ _ _ _ (by first | rfl | (simp only [World.size_alloc]))).trans rfl | refine (cell_al_old _ _ _ (by first | omega | (simp only [World.size_alloc]; omega))).trans ?_)))
  have q2 : ∀ dd os, (fut (w.alloc (.cells #[.slice A n c, .slice B m d, .int .i64 s] 25)) dd os).cell? ⟨w.heap.size, 2, none⟩ = some (.int .i64 s) := cell_fut (by (repeat (first | exact (cell_al_new _ _ _ _ _ _ (by first | rfl | (simp only [World.size_alloc]))).trans rfl | refine (cell_al_old _ _ _ (by first | omega | (simp only [World.size_alloc]; omega))).trans ?_)))
  have HR := Lib.hid (hR.fut HW.out)
  have HI := Lib.hid (hI.fut HW.out)
  have HL := Lib.hid hl
  have HIL := Lib.hid hil
  clear hR hI hl hil hn hm
  by_cases hg : 0 ≤ T ∧ n ≤ 60 ∧ (m : Int) = T ∧ (s = 0 ∨ lg s = true)
  · obtain ⟨g1, g2, g3, g4⟩ := hg
    have hv : ∀ a b, ins.all lg = a → cs.all (colB T) = b → validI T cs ins s = (a && b) := fun a b ha hb => by
      have e1 : cs.length ≤ 60 := by rw [HL.out]; exact g2
      have e2 : (ins.length : Int) = T := by rw [HIL.out]; exact g3
      have e3 : (decide (s = 0) || lg s) = true := by simpa using g4
      simp only [validI, ha, hb, e3, decide_eq_true g1, decide_eq_true e1, decide_eq_true e2, Bool.true_and]
    have HV := Lib.hid hv
    clear hv
    have hor : s = 0 ∨ (¬ s = 0 ∧ lg s = true) := by
      by_cases h : s = 0
      · exact .inl h
      · exact .inr ⟨h, g4.resolve_left h⟩
    clear g4
    rcases hor with h1 | ⟨h1, h2⟩
    all_goals
      first | (replace h1 := cmpF_yes h1) | (replace h1 := cmpF_no h1)
      obtain ⟨h1a, h1b, h1c⟩ := h1
      obtain ⟨h3a, h3b, h3c⟩ := cmpF_yes g3
      clear g3
      go_enter Try.func11, Try.ntmps11
      cases hb : ins.all lg with
      | true =>
        have HA := Lib.hid hb
        have HCI := Lib.hid (fun w' h => contI_any B m d ins w' HIL.out HM.out h)
        rw [hb] at HCI
        clear hb
        go_wp2_with (first | (go_at_call 22; refine (large_any _ _).mono ?_; rintro e w1 ⟨rfl, rfl⟩) | (go_at_call 23; refine (HCI.out _ HI.out).mono ?_; rintro e w1 ⟨rfl, hb1⟩; obtain ⟨dd, oo, rfl⟩ := fut_of hb1; clear hb1) | (go_at_call 25; refine (vcols_any T A n c cs _ HL.out HN.out (HR.out.fut (Fut.fut _ _ _))).mono ?_; rintro e w1 ⟨rfl, hb1⟩; have HB := Lib.hid hb1; clear hb1))
        go_ret
        exact ⟨by rw [HV.out _ _ HA.out rfl, Bool.true_and]; rfl, HW.out.trans ((Fut.fut _ _ _).trans HB.out)⟩
      | false =>
        have HA := Lib.hid hb
        have HCI := Lib.hid (fun w' h => contI_any B m d ins w' HIL.out HM.out h)
        rw [hb] at HCI
        clear hb
        go_wp2_with (first | (go_at_call 22; refine (large_any _ _).mono ?_; rintro e w1 ⟨rfl, rfl⟩) | (go_at_call 23; refine (HCI.out _ HI.out).mono ?_; rintro e w1 ⟨rfl, hb1⟩; obtain ⟨dd, oo, rfl⟩ := fut_of hb1; clear hb1))
        go_ret
        exact ⟨by rw [HV.out _ _ HA.out rfl, Bool.false_and]; rfl, HW.out.trans (Fut.fut _ _ _)⟩
  · have HFin := Lib.hid (show validI T cs ins s = false from by
      refine bnot fun h => hg ?_
      obtain ⟨⟨⟨⟨⟨h1, h2⟩, h3⟩, h4⟩, _⟩, _⟩ := (validI_iff T cs ins s).1 h
      rw [HL.out] at h2
      rw [HIL.out] at h3
      exact ⟨h1, h2, h3, h4⟩)
    have hor : T < 0 ∨ (¬ T < 0 ∧ 60 < n) ∨ (¬ T < 0 ∧ ¬ 60 < n ∧ ¬ (m : Int) = T) ∨ (¬ T < 0 ∧ ¬ 60 < n ∧ (m : Int) = T ∧ ¬ s = 0 ∧ lg s = false) := by
      by_cases h1 : T < 0
      · exact .inl h1
      by_cases h2 : 60 < n
      · exact .inr (.inl ⟨h1, h2⟩)
      by_cases h3 : (m : Int) = T
      · have h4 : ¬ (s = 0 ∨ lg s = true) := fun h4 => hg ⟨by omega, by omega, h3, h4⟩
        exact .inr (.inr (.inr ⟨h1, h2, h3, fun e => h4 (.inl e), bnot fun e => h4 (.inr e)⟩))
      · exact .inr (.inr (.inl ⟨h1, h2, h3⟩))
    clear hg
    rcases hor with h1 | ⟨h1, h2⟩ | ⟨h1, h2, h3⟩ | ⟨h1, h2, h3, h4, h5⟩
    all_goals
      try (obtain ⟨h4a, h4b, h4c⟩ := cmpF_no h4; clear h4)
      try (first | (obtain ⟨h3a, h3b, h3c⟩ := cmpF_yes h3; clear h3) | (obtain ⟨h3a, h3b, h3c⟩ := cmpF_no h3; clear h3))
      go_enter Try.func11, Try.ntmps11
      go_wp2_with (go_at_call 22; refine (large_any _ _).mono ?_; rintro e w1 ⟨rfl, rfl⟩)
      go_ret
      exact ⟨by rw [HFin.out]; rfl, HW.out⟩
end Go.Proofs.Ytagmpbgidooibaa
