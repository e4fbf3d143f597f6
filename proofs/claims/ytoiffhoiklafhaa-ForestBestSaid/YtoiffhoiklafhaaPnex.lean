/-
  The example grammar of the document; how many rules a tree may have.
-/
import Derived.Test.YtoiffhoiklafhaaPnorm
namespace Go.Proofs.PK
def exR : List NR := [⟨4, 0, 1, 1, 2, 0⟩, ⟨2, 1, 0, 0, 0, 0⟩, ⟨1, 1, 0, 0, 5, 0⟩]
theorem exR_valid : validN 1 2 0 exR = true := by decide
theorem exR_prices : pricesB 1 [4] = true := by decide
theorem exG : grE [4] exR = [⟨0, [1, 1], 2⟩, ⟨1, [], 4⟩, ⟨1, [], 5⟩] := by rfl
def exW (i : Nat) : VV := if i = 0 then ⟨10, 3⟩ else if i = 1 then ⟨4, 1⟩ else top
theorem exW_ok (v : Nat) : okV (exW v) := by
  unfold exW
  split
  · unfold okV INF; decide
  · split
    · unfold okV INF; decide
    · exact okV_top
theorem exw_comb : comb 2 [⟨4, 1⟩, ⟨4, 1⟩] = ⟨10, 3⟩ := by decide
theorem exw_ev : ev exW ⟨1, [], 4⟩ = ⟨4, 1⟩ ∧ ev exW ⟨1, [], 5⟩ = ⟨5, 1⟩ ∧ ev exW ⟨0, [1, 1], 2⟩ = ⟨10, 3⟩ := by
  refine ⟨?_, ?_, ?_⟩
  · unfold ev comb; simp [INF]
  · unfold ev comb; simp [INF]
  · exact exw_comb
theorem exw_sol : Sol (grE [4] exR) exW := by
  have hes := grE_ok exR_valid exR_prices
  rw [exG] at hes ⊢
  have h1 : Reached [⟨0, [1, 1], 2⟩, ⟨1, [], 4⟩, ⟨1, [], 5⟩] exW 1 := Reached.by (K := exW) (⟨1, [], 4⟩ : EE) (by simp) (fun t ht => by simp at ht) (by rw [exw_ev.1]; rfl)
  have h0 : Reached [⟨0, [1, 1], 2⟩, ⟨1, [], 4⟩, ⟨1, [], 5⟩] exW 0 := Reached.by (K := exW) (⟨0, [1, 1], 2⟩ : EE) (by simp) (fun t ht => by
    simp at ht; subst ht; exact h1) (by rw [exw_ev.2.2]; rfl)
  refine sol_of_reached hes exW_ok (fun v => ?_) (fun e he => ?_)
  · by_cases e0 : v = 0
    · subst e0; exact .inr h0
    · by_cases e1 : v = 1
      · subst e1; exact .inr h1
      · left; unfold exW; rw [if_neg e0, if_neg e1]
  · simp only [List.mem_cons, List.not_mem_nil, or_false] at he
    rcases he with rfl | rfl | rfl
    · rw [exw_ev.2.2]; exact leV_refl _
    · rw [exw_ev.1]; exact leV_refl _
    · rw [exw_ev.2.1]; unfold leV exW; simp
theorem exw_ch : chL exW (grE [4] exR) 0 0 = 0 ∧ chL exW (grE [4] exR) 0 1 = 1 := by
  rw [exG]
  constructor
  · simp [chL, att, exw_ev.2.2, exW, INF]
  · simp [chL, att, exw_ev.1, exw_ev.2.2, exW, INF]
def exT : DT := .node 0 [.node 1 [], .node 1 []]
theorem exw_fol : Fol exW (grE [4] exR) 0 exT := by
  have h1 : Fol exW (grE [4] exR) 1 (.node 1 []) := by
    have := Fol.mk (V := exW) (es := grE [4] exR) (v := 1) (E := ⟨1, [], 4⟩) (k := []) (by rw [exw_ch.2]; rfl) rfl (fun i d t h => by simp at h)
    rwa [exw_ch.2] at this
  have := Fol.mk (V := exW) (es := grE [4] exR) (v := 0) (E := ⟨0, [1, 1], 2⟩) (k := [.node 1 [], .node 1 []]) (by rw [exw_ch.1]; rfl) rfl (fun i d t h k => by
    match i with
    | 0 => simp at h k; subst h k; exact h1
    | 1 => simp at h k; subst h k; exact h1
    | i + 2 => simp at h)
  rwa [exw_ch.1] at this
/-! ### a tree of few rules -/
mutual
def leftF : DT → Int → Int → Int
  | .node _ k, l, m => if l > 100 ∨ m ≤ 0 then -1 else leftL k l (m - 1)
def leftL : List DT → Int → Int → Int
  | [], _, m => m
  | d :: k, l, m => if 0 ≤ m then leftL k l (leftF d (l + 1) m) else m
end
theorem leftL_neg : ∀ (k : List DT) (l m : Int), m < 0 → leftL k l m = m
  | [], l, m, _ => by rw [leftL]
  | d :: k, l, m, h => by rw [leftL, if_neg (by omega)]
theorem leftL_size : ∀ (k : List DT), (∀ d ∈ k, ∀ l m, 0 ≤ leftF d l m → leftF d l m = m - sizD d) → ∀ l m, 0 ≤ leftL k l m → leftL k l m = m - sizDs k
  | [], _, l, m, _ => by rw [leftL, sizDs]; omega
  | d :: k, h, l, m, h0 => by
    rw [leftL] at h0 ⊢
    rw [sizDs]
    by_cases hm : 0 ≤ m
    · rw [if_pos hm] at h0 ⊢
      by_cases hd : 0 ≤ leftF d (l + 1) m
      · rw [leftL_size k (fun x hx => h x (by simp [hx])) l _ h0, h d (by simp) _ _ hd]
        omega
      · rw [leftL_neg k l _ (by omega)] at h0
        exact absurd h0 hd
    · rw [if_neg hm] at h0; omega
theorem leftF_size (d : DT) : ∀ l m, 0 ≤ leftF d l m → leftF d l m = m - sizD d := by
  induction d using DT.ind with
  | h e k ih =>
    intro l m h
    rw [leftF] at h ⊢
    rw [sizD]
    split at h
    · omega
    · rename_i hn
      rw [if_neg hn, leftL_size k ih l _ h]
      omega
theorem leftL_bd : ∀ (k : List DT), (∀ d ∈ k, ∀ l m, 0 ≤ m → -1 ≤ leftF d l m ∧ leftF d l m ≤ m) → ∀ l m, -1 ≤ m → -1 ≤ leftL k l m ∧ leftL k l m ≤ m
  | [], _, l, m, h => by rw [leftL]; omega
  | d :: k, h, l, m, hm => by
    rw [leftL]
    split
    · rename_i h0
      have h1 := h d (by simp) (l + 1) m h0
      have h2 := leftL_bd k (fun x hx => h x (by simp [hx])) l (leftF d (l + 1) m) h1.1
      omega
    · omega
theorem leftF_bd (d : DT) : ∀ l m, 0 ≤ m → -1 ≤ leftF d l m ∧ leftF d l m ≤ m := by
  induction d using DT.ind with
  | h e k ih =>
    intro l m h
    rw [leftF]
    split
    · omega
    · rename_i hn
      have := leftL_bd k ih l (m - 1) (by omega)
      omega
/-- what comes of the kids from the j-th on -/
theorem leftL_at (k : List DT) (l m : Int) (j : Nat) (d : DT) (hd : k[j]? = some d) (h0 : 0 ≤ m) : leftL (k.drop j) l m = leftL (k.drop (j + 1)) l (leftF d (l + 1) m) := by
  obtain ⟨h1, h2⟩ := List.getElem?_eq_some_iff.1 hd
  rw [List.drop_eq_getElem_cons h1, leftL, if_pos h0, h2]
/-- sums are not great -/
theorem sumC_bd {es : List EE} {B : Int} (hB : 0 ≤ B) (hes : ∀ e ∈ es, e.c ≤ B) (d : DT) : sumC es d ≤ B * sizD d := by
  induction d using DT.ind with
  | h e k ih =>
    rw [sumC, sizD]
    have h1 : ecost es e ≤ B := by
      cases h : edge es e with
      | none => unfold ecost; rw [h]; exact hB
      | some E => rw [ecost_some h]; exact hes E (edge_mem h)
    have h2 : ∀ (k : List DT), (∀ d ∈ k, sumC es d ≤ B * sizD d) → sumCs es k ≤ B * sizDs k := by
      intro k
      induction k with
      | nil => intro _; rw [sumCs, sizDs]; omega
      | cons x k ihk =>
        intro hk
        rw [sumCs, sizDs, Int.mul_add]
        have := hk x (by simp)
        have := ihk (fun y hy => hk y (by simp [hy]))
        omega
    have := h2 k ih
    rw [Int.mul_add, Int.mul_one]
    omega
theorem grE_cost {T N st : Int} {rs : List NR} {ins : List Int} (h : validN T N st rs = true) (hp : pricesB T ins = true) : ∀ e ∈ grE ins rs, e.c ≤ 61000 := by
  intro e he
  obtain ⟨r, hr, rfl⟩ := List.mem_map.1 he
  exact (cost_bd ((validN_parts h).2.2.2.2.2 r hr) hp).2
end Go.Proofs.PK
