/-
  The example of the document, in plain mathematics.
-/
import Derived.Test.YtfaekfonemobcaaD11
namespace Go.Proofs.Ytfaekfonemobcaa
open Go.RowKit Go.Deep PK
def exD (A : Option Addr) : List EI := [⟨1, [], 2, 0, 0, none, 0⟩, ⟨1, [], 2, 0, 0, none, 0⟩, ⟨0, [1, 1], 1, 0, 0, A, 2⟩]
def exP : List EE := [⟨1, [], 2⟩, ⟨1, [], 2⟩, ⟨0, [1, 1], 1⟩]
theorem exD_P (A : Option Addr) : EEs (exD A) = exP := rfl
theorem exD_small (A : Option Addr) : smallB 2 (exD A) = true := by simp [smallB, validB, okE, inB', exD]
theorem exD_valid (A : Option Addr) : validB 2 (exD A) = true := smallB_true' (exD_small A)
  where smallB_true' {N : Int} {es : List EI} (h : smallB N es = true) : validB N es = true := (smallB_parts h).2.2.2
theorem exD_tl (A : Option Addr) : ∀ e ∈ exD A, e.t.length ≤ 1000000 := fun e he => Nat.le_trans ((smallB_parts (exD_small A)).2.2.1 e he) (by decide)
def exV (i : Nat) : VV := if i = 0 then ⟨5, 3⟩ else if i = 1 then ⟨2, 1⟩ else top
theorem exP_ok : ∀ e ∈ exP, PK.okE e := by
  intro e he
  simp only [exP, List.mem_cons, List.not_mem_nil, or_false] at he
  rcases he with rfl | rfl | rfl <;> (unfold PK.okE INF; decide)
theorem exV_ok (v : Nat) : okV (exV v) := by
  unfold exV
  split
  · unfold okV INF; decide
  · split
    · unfold okV INF; decide
    · exact okV_top
theorem ex_comb : comb 1 [⟨2, 1⟩, ⟨2, 1⟩] = ⟨5, 3⟩ := by kernel_rfl
theorem ex_ev : ev exV ⟨1, [], 2⟩ = ⟨2, 1⟩ ∧ ev exV ⟨0, [1, 1], 1⟩ = ⟨5, 3⟩ := by
  constructor
  · unfold ev comb; simp [INF]
  · exact ex_comb
theorem ex_sol (A : Option Addr) : Sol (EEs (exD A)) exV := by
  rw [exD_P]
  have h1 : Reached exP exV 1 := Reached.by (K := exV) (⟨1, [], 2⟩ : EE) (by simp [exP]) (fun t ht => by simp at ht) (by rw [ex_ev.1]; rfl)
  have h0 : Reached exP exV 0 := Reached.by (K := exV) (⟨0, [1, 1], 1⟩ : EE) (by simp [exP]) (fun t ht => by
    simp at ht; subst ht; exact h1) (by rw [ex_ev.2]; rfl)
  refine sol_of_reached exP_ok exV_ok (fun v => ?_) (fun e he => ?_)
  · by_cases e0 : v = 0
    · subst e0; exact .inr h0
    · by_cases e1 : v = 1
      · subst e1; exact .inr h1
      · left; unfold exV; rw [if_neg e0, if_neg e1]
  · simp only [exP, List.mem_cons, List.not_mem_nil, or_false] at he
    rcases he with rfl | rfl | rfl
    · rw [ex_ev.1]; exact leV_refl _
    · rw [ex_ev.1]; exact leV_refl _
    · rw [ex_ev.2]; exact leV_refl _
theorem exV_s (i : Nat) : (exV i).s ≤ 1000 := by
  unfold exV
  split
  · decide
  · split
    · decide
    · unfold top; decide
def exX : DT := .node 2 [.node 1 [], .node 0 []]
def exY : DT := .node 2 [.node 0 [], .node 0 []]
theorem ex_ch : chL exV exP 0 0 = 2 ∧ chL exV exP 0 1 = 0 := by
  constructor
  · simp [chL, exP, att, ex_ev.1, ex_ev.2, exV, INF]
  · simp [chL, exP, att, ex_ev.1, exV, INF]
theorem ex_fol (A : Option Addr) : Fol exV (EEs (exD A)) 0 exY := by
  rw [exD_P]
  have h1 : Fol exV exP 1 (.node 0 []) := by
    have := Fol.mk (V := exV) (es := exP) (v := 1) (E := ⟨1, [], 2⟩) (k := []) (by rw [ex_ch.2]; rfl) rfl (fun i d t h => by simp at h)
    rwa [ex_ch.2] at this
  have := Fol.mk (V := exV) (es := exP) (v := 0) (E := ⟨0, [1, 1], 1⟩) (k := [.node 0 [], .node 0 []]) (by rw [ex_ch.1]; rfl) rfl (fun i d t h k => by
    match i with
    | 0 => simp at h k; subst h k; exact h1
    | 1 => simp at h k; subst h k; exact h1
    | i + 2 => simp at h)
  rwa [ex_ch.1] at this
/-- what Best answers at the example -/
theorem ex_best {A : Option Addr} {d : DI} {e : Int} (h : BestR 2 (exD A) exV 0 d e) : e = 0 ∧ toDT d = exY := by
  rcases h with ⟨h, _⟩ | ⟨_, h, _⟩ | ⟨_, _, h, _⟩ | ⟨_, _, _, rfl, h⟩
  · rw [exD_valid] at h; cases h
  · exact absurd ⟨by decide, by decide⟩ h
  · exact absurd h (by decide)
  · exact ⟨rfl, h.unique (ex_fol A)⟩
theorem ex_leaf (j : Int) (hj : j = 0 ∨ j = 1) : validD exP (.node j []) 1 = true ∧ val exP (.node j []) = ⟨2, 1⟩ := by
  rcases hj with rfl | rfl
  · exact ⟨by rw [validD]; simp [edge, exP, validL], by rw [val]; simp [edge, exP, valL, comb, INF]⟩
  · exact ⟨by rw [validD]; simp [edge, exP, validL], by rw [val]; simp [edge, exP, valL, comb, INF]⟩
theorem ex_node (i j : Int) (hi : i = 0 ∨ i = 1) (hj : j = 0 ∨ j = 1) : validD exP (.node 2 [.node i [], .node j []]) 0 = true ∧ val exP (.node 2 [.node i [], .node j []]) = ⟨5, 3⟩ := by
  have e2 : edge exP 2 = some ⟨0, [1, 1], 1⟩ := rfl
  obtain ⟨a1, a2⟩ := ex_leaf i hi
  obtain ⟨b1, b2⟩ := ex_leaf j hj
  refine ⟨?_, ?_⟩
  · rw [validD, e2]
    simp only [validL]
    rw [show ((1 : Nat) : Int) = 1 from rfl, a1, b1]; rfl
  · rw [val, e2]
    simp only [valL, a2, b2]
    exact ex_comb
theorem ex_x (A : Option Addr) : validD (EEs (exD A)) exX 0 = true := (ex_node 1 0 (.inr rfl) (.inl rfl)).1
theorem ex_y (A : Option Addr) : validD (EEs (exD A)) exY 0 = true := (ex_node 0 0 (.inl rfl) (.inl rfl)).1
theorem ex_x1 (A : Option Addr) : validD (EEs (exD A)) exX 1 = false := by
  rw [exD_P]
  unfold exX
  rw [validD, show edge exP 2 = some ⟨0, [1, 1], 1⟩ from rfl]
  simp
theorem ex_vy (A : Option Addr) : val (EEs (exD A)) exY = ⟨5, 3⟩ := (ex_node 0 0 (.inl rfl) (.inl rfl)).2
theorem ex_vx (A : Option Addr) : val (EEs (exD A)) exX = ⟨5, 3⟩ := (ex_node 1 0 (.inr rfl) (.inl rfl)).2
theorem ex_cyx (A : Option Addr) : cmpD (EEs (exD A)) exY exX = -1 := by
  have hy := ex_vy A
  have hx := ex_vx A
  unfold exX exY at *
  rw [cmpD, hy, hx]
  have c1 : cmpD (EEs (exD A)) (.node 0 []) (.node 1 []) = -1 := by
    rw [cmpD, exD_P, (ex_leaf 0 (.inl rfl)).2, (ex_leaf 1 (.inr rfl)).2]
    simp [cmpV, ltV, cmpI]
  simp only [cmpL, c1]
  simp [cmpV, ltV, cmpI]
theorem ex_eq : eqD exY exY = true := (eqD_iff _ _).2 rfl
end Go.Proofs.Ytfaekfonemobcaa
