/-
  A binary heap as plain mathematics.
-/
import Derived.Test.YtleapckcihcpaaaPknuth
namespace Go.Proofs.PK
section
variable {α : Type} (bf : α → α → Bool)
/-- 'before' orders weakly -/
structure WO : Prop where
  irr : ∀ a, bf a a = false
  tr : ∀ a b c, bf b a = false → bf c b = false → bf c a = false
  asym : ∀ a b, bf a b = true → bf b a = false
def swp (H : Nat → α) (i j : Nat) : Nat → α := upd (upd H i (H j)) j (H i)
theorem swp_left (H : Nat → α) (i j : Nat) : swp H i j i = H j := by
  unfold swp upd
  by_cases h : i = j
  · subst h; simp
  · rw [if_neg h, if_pos rfl]
theorem swp_right (H : Nat → α) (i j : Nat) : swp H i j j = H i := by unfold swp upd; simp
theorem swp_other (H : Nat → α) (i j k : Nat) (h1 : k ≠ i) (h2 : k ≠ j) : swp H i j k = H k := by unfold swp upd; rw [if_neg h2, if_neg h1]
theorem swp_mem (H : Nat → α) {i j m : Nat} (hi : i < m) (hj : j < m) (c : α) : (∃ k, k < m ∧ swp H i j k = c) ↔ ∃ k, k < m ∧ H k = c := by
  constructor
  · rintro ⟨k, hk, h⟩
    by_cases h1 : k = i
    · subst h1; rw [swp_left] at h; exact ⟨j, hj, h⟩
    · by_cases h2 : k = j
      · subst h2; rw [swp_right] at h; exact ⟨i, hi, h⟩
      · rw [swp_other _ _ _ _ h1 h2] at h; exact ⟨k, hk, h⟩
  · rintro ⟨k, hk, h⟩
    by_cases h1 : k = i
    · subst h1; exact ⟨j, hj, by rw [swp_right]; exact h⟩
    · by_cases h2 : k = j
      · subst h2; exact ⟨i, hi, by rw [swp_left]; exact h⟩
      · exact ⟨k, hk, by rw [swp_other _ _ _ _ h1 h2]; exact h⟩
def HeapOK (H : Nat → α) (m : Nat) : Prop := ∀ j, 0 < j → j < m → bf (H j) (H ((j - 1) / 2)) = false
def UpInv (H : Nat → α) (m i : Nat) : Prop := (∀ j, 0 < j → j < m → j ≠ i → bf (H j) (H ((j - 1) / 2)) = false) ∧ (∀ j, 0 < j → j < m → (j - 1) / 2 = i → 0 < i → bf (H j) (H ((i - 1) / 2)) = false)
def DownInv (H : Nat → α) (m i : Nat) : Prop := (∀ j, 0 < j → j < m → (j - 1) / 2 ≠ i → bf (H j) (H ((j - 1) / 2)) = false) ∧ (∀ j, 0 < j → j < m → (j - 1) / 2 = i → 0 < i → bf (H j) (H ((i - 1) / 2)) = false)
variable {bf}
theorem UpInv.stop {H : Nat → α} {m i : Nat} (h : UpInv bf H m i) (hs : i = 0 ∨ bf (H i) (H ((i - 1) / 2)) = false) : HeapOK bf H m := by
  intro j hj0 hj
  by_cases e : j = i
  · subst e
    rcases hs with hs | hs
    · omega
    · exact hs
  · exact h.1 j hj0 hj e
theorem UpInv.step {H : Nat → α} {m i : Nat} (wo : WO bf) (h : UpInv bf H m i) (hi0 : 0 < i) (hi : i < m) (hb : bf (H i) (H ((i - 1) / 2)) = true) : UpInv bf (swp H i ((i - 1) / 2)) m ((i - 1) / 2) := by
  have hp : (i - 1) / 2 < i := by omega
  generalize hpe : (i - 1) / 2 = p at *
  refine ⟨fun j hj0 hj hjp => ?_, fun j hj0 hj hjp hp0 => ?_⟩
  · by_cases e : j = i
    · subst e
      rw [hpe, swp_left, swp_right]
      exact wo.asym _ _ hb
    · rw [swp_other _ _ _ _ e hjp]
      by_cases e2 : (j - 1) / 2 = i
      · rw [e2, swp_left]
        have := h.2 j hj0 hj e2 hi0
        rwa [hpe] at this
      · by_cases e3 : (j - 1) / 2 = p
        · rw [e3, swp_right]
          have h1 := h.1 j hj0 hj e
          rw [e3] at h1
          exact wo.tr _ _ _ (wo.asym _ _ hb) h1
        · rw [swp_other _ _ _ _ e2 e3]; exact h.1 j hj0 hj e
  · have hne : (p - 1) / 2 ≠ i ∧ (p - 1) / 2 ≠ p := by omega
    rw [swp_other _ _ _ ((p - 1) / 2) hne.1 hne.2]
    by_cases e : j = i
    · subst e
      rw [swp_left]
      exact h.1 p hp0 (by omega) (by omega)
    · rw [swp_other _ _ _ j e (by omega)]
      have h1 := h.1 j hj0 hj e
      rw [hjp] at h1
      exact wo.tr _ _ _ (h.1 p hp0 (by omega) (by omega)) h1
theorem DownInv.stop {H : Nat → α} {m i : Nat} (h : DownInv bf H m i) (hs : ∀ j, 0 < j → j < m → (j - 1) / 2 = i → bf (H j) (H i) = false) : HeapOK bf H m := by
  intro j hj0 hj
  by_cases e : (j - 1) / 2 = i
  · have := hs j hj0 hj e
    rwa [e]
  · exact h.1 j hj0 hj e
theorem DownInv.step {H : Nat → α} {m i l : Nat} (wo : WO bf) (h : DownInv bf H m i) (hl0 : 0 < l) (hl : l < m) (hli : (l - 1) / 2 = i) (hb : bf (H l) (H i) = true)
    (hs : ∀ j, 0 < j → j < m → (j - 1) / 2 = i → bf (H j) (H l) = false) : DownInv bf (swp H i l) m l := by
  have hil : i < l := by omega
  refine ⟨fun j hj0 hj hjp => ?_, fun j hj0 hj hjp _ => ?_⟩
  · by_cases e : (j - 1) / 2 = i
    · rw [e, swp_left]
      by_cases e2 : j = l
      · subst e2; rw [swp_right]; exact wo.asym _ _ hb
      · rw [swp_other _ _ _ j (by omega) e2]; exact hs j hj0 hj e
    · rw [swp_other _ _ _ ((j - 1) / 2) e hjp]
      by_cases e2 : j = i
      · subst e2
        rw [swp_left]
        exact h.2 l hl0 hl hli hj0
      · rw [swp_other _ _ _ j e2 (by omega)]; exact h.1 j hj0 hj e
  · rw [hli, swp_left, swp_other _ _ _ j (by omega) (by omega)]
    have := h.1 j hj0 hj (by omega)
    rw [hjp] at this
    exact this
theorem heap_min (wo : WO bf) {H : Nat → α} {m : Nat} (h : HeapOK bf H m) : ∀ (n i : Nat), i ≤ n → i < m → bf (H i) (H 0) = false
  | 0, i, hi, _ => by
    have : i = 0 := by omega
    subst this; exact wo.irr _
  | n + 1, i, hi, him => by
    by_cases e : i = 0
    · subst e; exact wo.irr _
    · exact wo.tr _ _ _ (heap_min wo h n ((i - 1) / 2) (by omega) (by omega)) (h i (by omega) him)
/-- a new last element -/
theorem HeapOK.push {H : Nat → α} {m : Nat} (h : HeapOK bf H m) (x : α) : UpInv bf (upd H m x) (m + 1) m := by
  refine ⟨fun j hj0 hj hne => ?_, fun j hj0 hj hp _ => by omega⟩
  rw [upd_other _ _ _ _ hne, upd_other _ _ _ _ (by omega)]
  exact h j hj0 (by omega)
/-- the first goes, the last takes its place -/
theorem HeapOK.pop {H : Nat → α} {m : Nat} (h : HeapOK bf H m) (hm : 0 < m) : DownInv bf (swp H 0 (m - 1)) (m - 1) 0 := by
  refine ⟨fun j hj0 hj hp => ?_, fun j hj0 hj hp h0 => by omega⟩
  rw [swp_other _ _ _ j (by omega) (by omega), swp_other _ _ _ ((j - 1) / 2) hp (by omega)]
  exact h j hj0 (by omega)
theorem pop_mem (H : Nat → α) {m : Nat} (hm : 0 < m) (c : α) : (∃ k, k < m ∧ H k = c) ↔ c = H 0 ∨ ∃ k, k < m - 1 ∧ swp H 0 (m - 1) k = c := by
  constructor
  · rintro ⟨k, hk, h⟩
    by_cases h0 : k = 0
    · subst h0; exact .inl h.symm
    · by_cases h1 : k = m - 1
      · subst h1; exact .inr ⟨0, by omega, by rw [swp_left]; exact h⟩
      · exact .inr ⟨k, by omega, by rw [swp_other _ _ _ _ h0 h1]; exact h⟩
  · rintro (h | ⟨k, hk, h⟩)
    · exact ⟨0, hm, h.symm⟩
    · exact (swp_mem H hm (by omega : m - 1 < m) c).1 ⟨k, by omega, h⟩
end
/-- an entry of the queue -/
structure EN where
  n : Nat
  v : VV
  hd : Int
  tm : Int
def bef (a b : EN) : Bool := ltV a.v b.v || (!(ltV b.v a.v) && decide (a.tm < b.tm))
theorem bef_wo : WO bef := by
  refine ⟨fun a => ?_, fun a b c => ?_, fun a b => ?_⟩
  all_goals
    unfold bef ltV
    simp only [Bool.or_eq_false_iff, Bool.and_eq_false_iff, Bool.or_eq_true, Bool.and_eq_true, Bool.not_eq_true', Bool.not_eq_false', decide_eq_true_eq, decide_eq_false_iff_not]
    omega
theorem bef_le {a b : EN} (h : bef b a = false) : leV a.v b.v := by
  unfold bef at h
  simp only [Bool.or_eq_false_iff] at h
  exact leV_of_not_lt h.1
end Go.Proofs.PK
