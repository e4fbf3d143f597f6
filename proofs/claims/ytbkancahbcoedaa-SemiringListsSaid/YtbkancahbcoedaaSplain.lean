/-
  The axioms of the semirings, as plain mathematics.
-/
import Derived.Test.YtbkancahbcoedaaSemi
namespace Go.Proofs.Ytbkancahbcoedaa

def sat (x : Int) : Int := if x < 1099511627776 then x else 1099511627776
theorem plusF_sat (a b : Int) : plusF a b = sat (a + b) := rfl
theorem mulF_sat (a b : Int) : mulF a b = sat (a * b) := rfl
theorem sat_mul {a x : Int} (ha : 0 ≤ a) (hx : 0 ≤ x) : sat (a * sat x) = sat (a * x) := by
  by_cases h : x < 1099511627776
  · rw [show sat x = x from if_pos h]
  · rw [show sat x = 1099511627776 from if_neg h]
    rcases Int.lt_or_eq_of_le ha with h0 | h0
    · have h1 : 1 * 1099511627776 ≤ a * 1099511627776 := Int.mul_le_mul_of_nonneg_right (by omega) (by omega)
      have h2 : 1 * x ≤ a * x := Int.mul_le_mul_of_nonneg_right (by omega) hx
      rw [show sat (a * 1099511627776) = 1099511627776 from if_neg (by omega), show sat (a * x) = 1099511627776 from if_neg (by omega)]
    · rw [← h0]; simp
theorem sat_add {x y : Int} (hx : 0 ≤ x) (hy : 0 ≤ y) : sat (sat x + sat y) = sat (x + y) := by
  unfold sat; repeat' split
  all_goals omega

theorem min_assoc (a b c : Int) : minF a (minF b c) = minF (minF a b) c := by unfold minF; repeat' split
                                                                              all_goals omega
theorem min_comm (a b : Int) : minF a b = minF b a := by unfold minF; repeat' split
                                                         all_goals omega
theorem plus_assoc {a b c : Int} (ha : 0 ≤ a) (hb : 0 ≤ b) (hc : 0 ≤ c) : plusF a (plusF b c) = plusF (plusF a b) c := by
  unfold plusF; repeat' split
  all_goals omega
theorem plus_comm (a b : Int) : plusF a b = plusF b a := by unfold plusF; rw [Int.add_comm]
theorem plus_min {a b c : Int} : plusF a (minF b c) = minF (plusF a b) (plusF a c) := by
  unfold plusF minF; repeat' split
  all_goals omega
theorem mul_assoc' {a b c : Int} (ha : 0 ≤ a) (hb : 0 ≤ b) (hc : 0 ≤ c) : mulF a (mulF b c) = mulF (mulF a b) c := by
  have h1 := Int.mul_nonneg ha hb
  have h2 := Int.mul_nonneg hb hc
  rw [mulF_sat, mulF_sat, mulF_sat, mulF_sat, sat_mul ha h2, Int.mul_comm (sat (a * b)) c, sat_mul hc h1, ← Int.mul_assoc, Int.mul_comm c]
theorem mul_plus {a b c : Int} (ha : 0 ≤ a) (hb : 0 ≤ b) (hc : 0 ≤ c) : mulF a (plusF b c) = plusF (mulF a b) (mulF a c) := by
  rw [mulF_sat, plusF_sat, plusF_sat, mulF_sat, mulF_sat, sat_mul ha (by omega), sat_add (Int.mul_nonneg ha hb) (Int.mul_nonneg ha hc), Int.mul_add]

/-- of a value: cost, then size -/
theorem va_assoc (a b c d e f : Int) : vaC a b (vaC c d e f) (vaS c d e f) = vaC (vaC a b c d) (vaS a b c d) e f ∧ vaS a b (vaC c d e f) (vaS c d e f) = vaS (vaC a b c d) (vaS a b c d) e f := by
  have key : ∀ x y z u : Int, lessB x y z u = true ↔ x < z ∨ (x = z ∧ y < u) := fun x y z u => by simp [lessB]
  have key2 : ∀ x y z u : Int, lessB x y z u = false ↔ ¬ (x < z ∨ (x = z ∧ y < u)) := fun x y z u => by rw [← key]; simp
  unfold vaC vaS
  cases h1 : lessB e f c d <;> cases h2 : lessB c d a b <;> cases h3 : lessB e f a b <;> simp_all <;> omega
theorem va_comm (a b c d : Int) : vaC a b c d = vaC c d a b ∧ vaS a b c d = vaS c d a b := by
  have key : ∀ x y z u : Int, lessB x y z u = true ↔ x < z ∨ (x = z ∧ y < u) := fun x y z u => by simp [lessB]
  have key2 : ∀ x y z u : Int, lessB x y z u = false ↔ ¬ (x < z ∨ (x = z ∧ y < u)) := fun x y z u => by rw [← key]; simp
  unfold vaC vaS
  cases h1 : lessB a b c d <;> cases h2 : lessB c d a b <;> simp_all <;> omega
theorem va_bd {a b c d : Int} (h : valB a b = true) (k : valB c d = true) : valB (vaC a b c d) (vaS a b c d) = true := by
  unfold vaC vaS; cases lessB c d a b <;> simpa
theorem vm_bd {a b c d : Int} (h : valB a b = true) (k : valB c d = true) : valB (vmC a c) (vmS a b c d) = true := by
  have h1 := valB_bd h
  have h2 := valB_bd k
  have h3 := plusF_bd h1.2.2.1 h2.2.2.1
  rw [valB_iff]
  unfold vmC vmS
  split
  · right; exact ⟨by omega, by omega, h3.1, h3.2⟩
  · left; exact ⟨rfl, rfl⟩
theorem vm_assoc {a b c d e f : Int} (h : valB a b = true) (k : valB c d = true) (l : valB e f = true) :
    vmC a (vmC c e) = vmC (vmC a c) e ∧ vmS a b (vmC c e) (vmS c d e f) = vmS (vmC a c) (vmS a b c d) e f := by
  have h1 := valB_bd h
  have h2 := valB_bd k
  have h3 := valB_bd l
  unfold vmC vmS plusF
  repeat' split
  all_goals first | omega | (constructor <;> omega)
theorem vm_one {a b : Int} (h : valB a b = true) : vmC a 0 = a ∧ vmS a b 0 0 = b ∧ vmC 0 a = a ∧ vmS 0 0 a b = b := by
  have h1 := valB_bd h
  rw [valB_iff] at h
  unfold vmC vmS plusF
  repeat' split
  all_goals (refine ⟨?_, ?_, ?_, ?_⟩ <;> omega)
theorem vm_zero {a b : Int} (h : valB a b = true) : vmC a 1099511627776 = 1099511627776 ∧ vmS a b 1099511627776 0 = 0 := by
  have h1 := valB_bd h
  unfold vmC vmS
  rw [if_neg (by omega), if_neg (by omega)]; exact ⟨rfl, rfl⟩
theorem va_zero {a b : Int} (h : valB a b = true) : vaC a b 1099511627776 0 = a ∧ vaS a b 1099511627776 0 = b := by
  rw [valB_iff] at h
  have hl : lessB 1099511627776 0 a b = false := by simp [lessB]; omega
  unfold vaC vaS
  rw [hl]; exact ⟨rfl, rfl⟩
theorem va_self (a b : Int) : vaC a b a b = a ∧ vaS a b a b = b := by unfold vaC vaS; simp
theorem vm_va {a b c d e f : Int} (h : valB a b = true) (k : valB c d = true) (l : valB e f = true) :
    vmC a (vaC c d e f) = vaC (vmC a c) (vmS a b c d) (vmC a e) (vmS a b e f) ∧ vmS a b (vaC c d e f) (vaS c d e f) = vaS (vmC a c) (vmS a b c d) (vmC a e) (vmS a b e f) := by
  have h1 := valB_bd h
  have h2 := valB_bd k
  have h3 := valB_bd l
  have key : ∀ x y z u : Int, lessB x y z u = true ↔ x < z ∨ (x = z ∧ y < u) := fun x y z u => by simp [lessB]
  have key2 : ∀ x y z u : Int, lessB x y z u = false ↔ ¬ (x < z ∨ (x = z ∧ y < u)) := fun x y z u => by rw [← key]; simp
  have p1 := plusF_bd h1.2.2.1 h2.2.2.1
  have p2 := plusF_bd h1.2.2.1 h3.2.2.1
  have q1 : (f < d ∨ plusF b d ≤ plusF b f) ∧ (d < f ∨ plusF b f ≤ plusF b d) := by
    unfold plusF; repeat' split
    all_goals (constructor <;> omega)
  rw [valB_iff] at k l
  unfold vaC vaS vmC vmS
  by_cases g1 : a + c < 1099511627776 <;> by_cases g2 : a + e < 1099511627776
  all_goals
    simp only [g1, g2, if_true, if_false]
  · cases e1 : lessB e f c d <;> cases e2 : lessB (a + e) (plusF b f) (a + c) (plusF b d) <;> simp only [key, key2] at e1 e2 <;> simp only [if_true, if_false, Bool.false_eq_true, g1, g2] <;> (first | exact ⟨trivial, trivial⟩ | (constructor <;> first | trivial | omega))
  · cases e1 : lessB e f c d <;> cases e2 : lessB 1099511627776 0 (a + c) (plusF b d) <;> simp only [key, key2] at e1 e2 <;> simp only [if_true, if_false, Bool.false_eq_true, g1, g2] <;> (first | exact ⟨trivial, trivial⟩ | (constructor <;> first | trivial | omega))
  · cases e1 : lessB e f c d <;> cases e2 : lessB (a + e) (plusF b f) 1099511627776 0 <;> simp only [key, key2] at e1 e2 <;> simp only [if_true, if_false, Bool.false_eq_true, g1, g2] <;> (first | exact ⟨trivial, trivial⟩ | (constructor <;> first | trivial | omega))
  · cases e1 : lessB e f c d <;> cases e2 : lessB 1099511627776 0 1099511627776 0 <;> simp only [key, key2] at e1 e2 <;> simp only [if_true, if_false, Bool.false_eq_true, g1, g2] <;> (first | exact ⟨trivial, trivial⟩ | (constructor <;> first | trivial | omega))
end Go.Proofs.Ytbkancahbcoedaa
