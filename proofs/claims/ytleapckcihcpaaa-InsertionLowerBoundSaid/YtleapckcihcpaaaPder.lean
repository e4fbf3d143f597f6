/-
  Trees of derivations as plain mathematics: their validity, value and order.
-/
import Derived.Test.YtleapckcihcpaaaPknuth
namespace Go.Proofs.PK
inductive DT where
  | node (e : Int) (k : List DT)
def DT.e : DT → Int
  | .node e _ => e
def DT.k : DT → List DT
  | .node _ k => k
theorem DT.ind {P : DT → Prop} (h : ∀ e k, (∀ d ∈ k, P d) → P (.node e k)) : ∀ d, P d
  | .node e k => h e k (fun d _hd => DT.ind h d)
termination_by d => sizeOf d
decreasing_by
  have := List.sizeOf_lt_of_mem _hd
  simp
  omega
section
variable (es : List EE)
def edge (i : Int) : Option EE := if 0 ≤ i then es[i.toNat]? else none
mutual
def validD : DT → Int → Bool
  | .node e k, r => match edge es e with
    | none => false
    | some E => decide ((E.h : Int) = r) && decide (E.t.length = k.length) && validL k E.t
def validL : List DT → List Nat → Bool
  | [], _ => true
  | _ :: _, [] => false
  | d :: k, t :: ts => validD d (t : Int) && validL k ts
end
mutual
def val : DT → VV
  | .node e k => match edge es e with
    | none => top
    | some E => comb E.c (valL k)
def valL : List DT → List VV
  | [] => []
  | d :: k => val d :: valL k
end
theorem valL_map : ∀ k, valL es k = k.map (val es)
  | [] => by rw [valL]; rfl
  | d :: k => by rw [valL, valL_map k]; rfl
theorem validL_iff : ∀ (k : List DT) (ts : List Nat), k.length = ts.length → (validL es k ts = true ↔ ∀ (i : Nat) d t, k[i]? = some d → ts[i]? = some t → validD es d (t : Int) = true)
  | [], ts, _ => by rw [validL]; simp
  | d :: k, [], h => by simp at h
  | d :: k, t :: ts, h => by
    rw [validL, Bool.and_eq_true, validL_iff k ts (by simpa using h)]
    constructor
    · rintro ⟨h1, h2⟩ i x y hx hy
      cases i with
      | zero => simp at hx hy; subst hx hy; exact h1
      | succ i => exact h2 i x y (by simpa using hx) (by simpa using hy)
    · intro h3
      exact ⟨h3 0 d t rfl rfl, fun i x y hx hy => h3 (i + 1) x y (by simpa using hx) (by simpa using hy)⟩
/-- a valid tree, opened -/
theorem validD_iff (e : Int) (k : List DT) (r : Int) : validD es (.node e k) r = true ↔ ∃ E, edge es e = some E ∧ (E.h : Int) = r ∧ E.t.length = k.length ∧ ∀ (i : Nat) d t, k[i]? = some d → E.t[i]? = some t → validD es d (t : Int) = true := by
  rw [validD]
  cases h : edge es e with
  | none => simp
  | some E =>
    simp only [Bool.and_eq_true, decide_eq_true_eq, Option.some.injEq]
    constructor
    · rintro ⟨⟨h1, h2⟩, h3⟩
      exact ⟨E, rfl, h1, h2, (validL_iff es k E.t h2.symm).1 h3⟩
    · rintro ⟨E', rfl, h1, h2, h3⟩
      exact ⟨⟨h1, h2⟩, (validL_iff es k _ h2.symm).2 h3⟩
/-! ### the order -/
def cmpV (a b : VV) : Int := if ltV a b = true then -1 else if ltV b a = true then 1 else 0
def cmpI (a b : Int) : Int := if a < b then -1 else if b < a then 1 else 0
mutual
def cmpD : DT → DT → Int
  | .node e k, .node f l => if cmpV (val es (.node e k)) (val es (.node f l)) ≠ 0 then cmpV (val es (.node e k)) (val es (.node f l)) else if cmpI e f ≠ 0 then cmpI e f else cmpL k l
def cmpL : List DT → List DT → Int
  | [], [] => 0
  | [], _ :: _ => -1
  | _ :: _, [] => 1
  | d :: k, f :: l => if cmpD d f ≠ 0 then cmpD d f else cmpL k l
end
theorem cmpV_anti (a b : VV) : cmpV b a = - cmpV a b := by
  unfold cmpV
  by_cases h1 : ltV a b = true
  · have h2 : ltV b a = false := not_lt_of_leV (leV_of_lt h1)
    simp [h1, h2]
  · by_cases h2 : ltV b a = true
    · simp [h1, h2]
    · simp [h1, h2]
theorem cmpV_zero {a b : VV} : cmpV a b = 0 ↔ a = b := by
  unfold cmpV
  constructor
  · intro h
    by_cases h1 : ltV a b = true
    · simp [h1] at h
    · by_cases h2 : ltV b a = true
      · simp [h1, h2] at h
      · exact leV_antisymm (leV_of_not_lt (by simpa using h2)) (leV_of_not_lt (by simpa using h1))
  · rintro rfl
    have : ltV a a = false := not_lt_of_leV (leV_refl a)
    simp [this]
theorem cmpV_le {a b : VV} : cmpV a b ≤ 0 ↔ leV a b := by
  unfold cmpV
  constructor
  · intro h
    by_cases h1 : ltV a b = true
    · exact leV_of_lt h1
    · by_cases h2 : ltV b a = true
      · simp [h1, h2] at h
      · exact leV_of_not_lt (by simpa using h2)
  · intro h
    have h2 : ltV b a = false := not_lt_of_leV h
    by_cases h1 : ltV a b = true <;> simp [h1, h2]
theorem cmpI_anti (a b : Int) : cmpI b a = - cmpI a b := by unfold cmpI; split <;> split <;> omega
theorem cmpI_zero {a b : Int} : cmpI a b = 0 ↔ a = b := by unfold cmpI; split <;> (try split) <;> omega
theorem cmpI_le {a b : Int} : cmpI a b ≤ 0 ↔ a ≤ b := by unfold cmpI; split <;> (try split) <;> omega
theorem cmpV_bd (a b : VV) : -1 ≤ cmpV a b ∧ cmpV a b ≤ 1 := by unfold cmpV; split <;> (try split) <;> omega
theorem cmpI_bd (a b : Int) : -1 ≤ cmpI a b ∧ cmpI a b ≤ 1 := by unfold cmpI; split <;> (try split) <;> omega
theorem cmpL_bd : ∀ (k : List DT), (∀ d ∈ k, ∀ f, -1 ≤ cmpD es d f ∧ cmpD es d f ≤ 1) → ∀ l, -1 ≤ cmpL es k l ∧ cmpL es k l ≤ 1
  | [], _, [] => by rw [cmpL]; omega
  | [], _, _ :: _ => by rw [cmpL]; omega
  | _ :: _, _, [] => by rw [cmpL]; omega
  | d :: k, h, f :: l => by
    rw [cmpL]
    split
    · exact h d (by simp) f
    · exact cmpL_bd k (fun x hx => h x (by simp [hx])) l
theorem cmpD_bd (a : DT) : ∀ b, -1 ≤ cmpD es a b ∧ cmpD es a b ≤ 1 := by
  induction a using DT.ind with
  | h e k ih =>
    rintro ⟨f, l⟩
    rw [cmpD]
    split
    · exact cmpV_bd _ _
    · split
      · exact cmpI_bd _ _
      · exact cmpL_bd es k ih l
theorem cmpL_anti : ∀ (k : List DT), (∀ d ∈ k, ∀ f, cmpD es f d = - cmpD es d f) → ∀ l, cmpL es l k = - cmpL es k l
  | [], _, [] => by simp [cmpL]
  | [], _, _ :: _ => by simp [cmpL]
  | _ :: _, _, [] => by simp [cmpL]
  | d :: k, h, f :: l => by
    rw [cmpL, cmpL, h d (by simp) f, cmpL_anti k (fun x hx => h x (by simp [hx])) l]
    by_cases e : cmpD es d f = 0
    · simp [e]
    · rw [if_pos (by omega), if_pos e]
theorem cmpD_anti (a : DT) : ∀ b, cmpD es b a = - cmpD es a b := by
  induction a using DT.ind with
  | h e k ih =>
    rintro ⟨f, l⟩
    rw [cmpD, cmpD, cmpV_anti, cmpI_anti, cmpL_anti es k ih l]
    by_cases e1 : cmpV (val es (.node e k)) (val es (.node f l)) = 0
    · by_cases e2 : cmpI e f = 0
      · simp [e1, e2]
      · rw [if_neg (by omega), if_pos (by omega), if_neg (by omega), if_pos e2]
    · rw [if_pos (by omega), if_pos e1]
theorem cmpL_zero : ∀ (k : List DT), (∀ d ∈ k, ∀ f, cmpD es d f = 0 → d = f) → ∀ l, cmpL es k l = 0 → k = l
  | [], _, [], _ => rfl
  | [], _, _ :: _, h => by simp [cmpL] at h
  | _ :: _, _, [], h => by simp [cmpL] at h
  | d :: k, h, f :: l, h0 => by
    rw [cmpL] at h0
    by_cases e : cmpD es d f = 0
    · rw [if_neg (by omega)] at h0
      rw [h d (by simp) f e, cmpL_zero k (fun x hx => h x (by simp [hx])) l h0]
    · rw [if_pos e] at h0; exact absurd h0 e
theorem cmpD_zero (a : DT) : ∀ b, cmpD es a b = 0 → a = b := by
  induction a using DT.ind with
  | h e k ih =>
    rintro ⟨f, l⟩ h0
    rw [cmpD] at h0
    by_cases e1 : cmpV (val es (.node e k)) (val es (.node f l)) = 0
    · rw [if_neg (by omega)] at h0
      by_cases e2 : cmpI e f = 0
      · rw [if_neg (by omega)] at h0
        rw [cmpI_zero.1 e2, cmpL_zero es k ih l h0]
      · rw [if_pos e2] at h0; exact absurd h0 e2
    · rw [if_pos e1] at h0; exact absurd h0 e1
theorem cmpL_refl : ∀ (k : List DT), (∀ d ∈ k, cmpD es d d = 0) → cmpL es k k = 0
  | [], _ => by rw [cmpL]
  | d :: k, h => by
    rw [cmpL, if_neg (by rw [h d (by simp)]; simp)]
    exact cmpL_refl k (fun x hx => h x (by simp [hx]))
theorem cmpD_refl (a : DT) : cmpD es a a = 0 := by
  induction a using DT.ind with
  | h e k ih =>
    rw [cmpD, if_neg (by rw [cmpV_zero.2 rfl]; simp), if_neg (by rw [cmpI_zero.2 rfl]; simp)]
    exact cmpL_refl es k ih
theorem cmpL_tr : ∀ (k : List DT), (∀ d ∈ k, ∀ f g, cmpD es d f ≤ 0 → cmpD es f g ≤ 0 → cmpD es d g ≤ 0) → ∀ l m, cmpL es k l ≤ 0 → cmpL es l m ≤ 0 → cmpL es k m ≤ 0
  | [], _, _, [], _, _ => by simp [cmpL]
  | [], _, _, _ :: _, _, _ => by simp [cmpL]
  | _ :: _, _, [], _, h, _ => by simp [cmpL] at h
  | _ :: _, _, _ :: _, [], _, h => by simp [cmpL] at h
  | d :: k, h, f :: l, g :: m, h1, h2 => by
    rw [cmpL] at h1 h2 ⊢
    by_cases e1 : cmpD es d f = 0
    · obtain rfl := cmpD_zero es d f e1
      rw [if_neg (by omega)] at h1
      by_cases e2 : cmpD es d g = 0
      · rw [if_neg (by omega)] at h2 ⊢
        exact cmpL_tr k (fun x hx => h x (by simp [hx])) l m h1 h2
      · rw [if_pos e2] at h2 ⊢; exact h2
    · rw [if_pos e1] at h1
      by_cases e2 : cmpD es f g = 0
      · obtain rfl := cmpD_zero es f g e2
        rw [if_pos e1]; exact h1
      · rw [if_pos e2] at h2
        have h3 := h d (by simp) f g h1 h2
        by_cases e3 : cmpD es d g = 0
        · exfalso
          obtain rfl := cmpD_zero es d g e3
          have := cmpD_anti es d f
          omega
        · rw [if_pos e3]; exact h3
theorem cmpD_tr (a : DT) : ∀ b c, cmpD es a b ≤ 0 → cmpD es b c ≤ 0 → cmpD es a c ≤ 0 := by
  induction a using DT.ind with
  | h e k ih =>
    rintro ⟨f, l⟩ ⟨g, m⟩ h1 h2
    rw [cmpD] at h1 h2 ⊢
    have hv1 : leV (val es (.node e k)) (val es (.node f l)) := by
      by_cases e1 : cmpV (val es (.node e k)) (val es (.node f l)) = 0
      · exact cmpV_le.1 (by omega)
      · rw [if_pos e1] at h1; exact cmpV_le.1 h1
    have hv2 : leV (val es (.node f l)) (val es (.node g m)) := by
      by_cases e1 : cmpV (val es (.node f l)) (val es (.node g m)) = 0
      · exact cmpV_le.1 (by omega)
      · rw [if_pos e1] at h2; exact cmpV_le.1 h2
    by_cases e3 : cmpV (val es (.node e k)) (val es (.node g m)) = 0
    · have e4 := cmpV_zero.1 e3
      have e5 : val es (.node e k) = val es (.node f l) := leV_antisymm hv1 (e4 ▸ hv2)
      rw [if_neg (by rw [cmpV_zero.2 e5]; simp)] at h1
      rw [if_neg (by rw [cmpV_zero.2 (e5.symm.trans e4)]; simp)] at h2
      rw [if_neg (by omega)]
      have he1 : e ≤ f := by
        by_cases e1 : cmpI e f = 0
        · exact cmpI_le.1 (by omega)
        · rw [if_pos e1] at h1; exact cmpI_le.1 h1
      have he2 : f ≤ g := by
        by_cases e1 : cmpI f g = 0
        · exact cmpI_le.1 (by omega)
        · rw [if_pos e1] at h2; exact cmpI_le.1 h2
      by_cases e6 : cmpI e g = 0
      · have e7 := cmpI_zero.1 e6
        rw [if_neg (by rw [cmpI_zero.2 (show e = f by omega)]; simp)] at h1
        rw [if_neg (by rw [cmpI_zero.2 (show f = g by omega)]; simp)] at h2
        rw [if_neg (by omega)]
        exact cmpL_tr es k ih l m h1 h2
      · rw [if_pos e6]; exact cmpI_le.2 (by omega)
    · rw [if_pos e3]; exact cmpV_le.2 (leV_trans hv1 hv2)
/-! trees alike -/
mutual
def eqD : DT → DT → Bool
  | .node e k, .node f l => decide (e = f) && decide (k.length = l.length) && eqL k l
def eqL : List DT → List DT → Bool
  | [], _ => true
  | _ :: _, [] => true
  | d :: k, f :: l => eqD d f && eqL k l
end
theorem eqL_iff : ∀ (k l : List DT), k.length = l.length → (∀ d ∈ k, ∀ f, eqD d f = true ↔ d = f) → (eqL k l = true ↔ k = l)
  | [], [], _, _ => by simp [eqL]
  | [], _ :: _, h, _ => by simp at h
  | _ :: _, [], h, _ => by simp at h
  | d :: k, f :: l, h, ih => by
    rw [eqL, Bool.and_eq_true, ih d (by simp) f, eqL_iff k l (by simpa using h) (fun x hx => ih x (by simp [hx]))]
    simp
theorem eqD_iff (a : DT) : ∀ b, eqD a b = true ↔ a = b := by
  induction a using DT.ind with
  | h e k ih =>
    rintro ⟨f, l⟩
    rw [eqD, Bool.and_eq_true, Bool.and_eq_true, decide_eq_true_eq, decide_eq_true_eq]
    constructor
    · rintro ⟨⟨rfl, h1⟩, h2⟩
      rw [(eqL_iff k l h1 ih).1 h2]
    · intro h
      injection h with h1 h2
      subst h1 h2
      exact ⟨⟨rfl, rfl⟩, (eqL_iff k k rfl ih).2 rfl⟩
end
end Go.Proofs.PK
