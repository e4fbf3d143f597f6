/-
  The order of a hypergraph, as plain mathematics.
-/
import Derived.Test.YtjoejkfchnooaaaHdp
namespace Go.Proofs.Ytjoejkfchnooaaa
/-- every edge of v has only tails in D -/
def readyB (es : List EI) (D : Nat → Bool) (v : Nat) : Bool := (List.range es.length).all fun i => headAt es i != v || (tl es i).all D
def nextO (es : List EI) (N : Nat) (D : Nat → Bool) : Option Nat := (List.range N).find? fun v => !(D v) && readyB es D v
def ordGo (es : List EI) (N : Nat) : Nat → (Nat → Bool) → List Nat → Option (List Nat)
  | 0, _, l => some l
  | f + 1, D, l => match nextO es N D with
    | none => none
    | some v => ordGo es N f (upd D v true) (l ++ [v])
def ordS (es : List EI) (N : Nat) : Option (List Nat) := ordGo es N N (fun _ => false) []
/-- how many tails of edges of v, of the first k edges, are not in D -/
def mis (es : List EI) (D : Nat → Bool) (v : Nat) : Nat → Nat
  | 0 => 0
  | k + 1 => mis es D v k + (if headAt es k = v then (tl es k).countP (fun t => !(D t)) else 0)
/-- how often t is a tail of an edge of h, of the first k edges -/
def occ (es : List EI) (h t : Nat) : Nat → Nat
  | 0 => 0
  | k + 1 => occ es h t k + (if headAt es k = h then (tl es k).count t else 0)
theorem mis_zero (es : List EI) (D : Nat → Bool) (v : Nat) : ∀ k, mis es D v k = 0 ↔ ∀ i, i < k → headAt es i = v → ∀ t ∈ tl es i, D t = true
  | 0 => ⟨fun _ i hi => by omega, fun _ => rfl⟩
  | k + 1 => by
    have ih := mis_zero es D v k
    unfold mis
    rw [Nat.add_eq_zero_iff, ih]
    constructor
    · rintro ⟨h1, h2⟩ i hi hv t ht
      by_cases e : i = k
      · subst e
        rw [if_pos hv, List.countP_eq_zero] at h2
        have := h2 t ht
        simpa using this
      · exact h1 i (by omega) hv t ht
    · intro h
      refine ⟨fun i hi => h i (by omega), ?_⟩
      split
      · rename_i hv
        rw [List.countP_eq_zero]
        intro t ht
        simp [h k (by omega) hv t ht]
      · rfl
theorem ready_iff_mis (es : List EI) (D : Nat → Bool) (v : Nat) : readyB es D v = true ↔ mis es D v es.length = 0 := by
  rw [mis_zero]
  unfold readyB
  simp only [List.all_eq_true, List.mem_range, Bool.or_eq_true, bne_iff_ne, ne_eq]
  constructor
  · intro h i hi hv t ht
    rcases h i hi with h1 | h1
    · exact absurd hv h1
    · exact h1 t ht
  · intro h i hi
    by_cases e : headAt es i = v
    · exact .inr (h i hi e)
    · exact .inl e
theorem mis_done (es : List EI) (D : Nat → Bool) (h t : Nat) (ht : D t = false) : ∀ k, mis es D h k = mis es (upd D t true) h k + occ es h t k
  | 0 => rfl
  | k + 1 => by
    unfold mis occ
    rw [mis_done es D h t ht k]
    have : (tl es k).countP (fun x => !(D x)) = (tl es k).countP (fun x => !(upd D t true x)) + (tl es k).count t := by
      rw [← countP_disj (fun x => !(upd D t true x)) t (by rw [upd_same]; rfl)]
      refine countP_congr' fun x _ => ?_
      by_cases e : x = t
      · subst e; rw [ht]; simp
      · rw [upd_other _ _ _ _ e]; simp [e]
    split
    · omega
    · omega
theorem mis_start_succ (es : List EI) (v k : Nat) : mis es (fun _ => false) v (k + 1) = mis es (fun _ => false) v k + (if headAt es k = v then (tl es k).length else 0) := by
  show mis es (fun _ => false) v k + _ = _
  congr 1
  split
  · exact List.countP_eq_length.2 (fun t _ => rfl)
  · rfl
/-- the lists of uses (heads) are right for the first k edges and j tails of the k-th -/
def UseH (es : List EI) (k j N : Nat) (L : Nat → List Nat) : Prop :=
  (∀ t, t < N → ∀ h, (L t).count h = occ es h t k + (if headAt es k = h then ((tl es k).take j).count t else 0)) ∧ ∀ t, t < N → ∀ h ∈ L t, h < N
theorem UseH.start (es : List EI) (N : Nat) : UseH es 0 0 N (fun _ => []) := ⟨fun t ht h => by simp [occ], fun t _ h hh => by simp at hh⟩
theorem UseH.push {es : List EI} {k j N t : Nat} {L : Nat → List Nat} (h : UseH es k j N L) (ht : (tl es k)[j]? = some t) (hh : headAt es k < N) : UseH es k (j + 1) N (upd L t (L t ++ [headAt es k])) := by
  refine ⟨fun u hu x => ?_, fun u hu x hx => ?_⟩
  · have h1 := h.1 u hu x
    have h2 : ((tl es k).take (j + 1)).count u = ((tl es k).take j).count u + (if u = t then 1 else 0) := by
      rw [List.take_add_one, ht, List.count_append]
      by_cases e : u = t
      · subst e; simp
      · simp [e, Ne.symm e]
    by_cases e : u = t
    · subst e
      rw [upd_same, List.count_append, h1]
      rw [if_pos rfl] at h2
      by_cases hx : headAt es k = x
      · subst hx
        rw [if_pos rfl, if_pos rfl, h2]; simp; omega
      · rw [if_neg hx, if_neg hx]; simp [hx]
    · rw [upd_other _ _ _ _ e, h1]
      rw [if_neg e] at h2
      rw [h2]; rfl
  · by_cases e : u = t
    · subst e
      rw [upd_same] at hx
      rcases List.mem_append.1 hx with hx | hx
      · exact h.2 u hu x hx
      · simp only [List.mem_singleton] at hx; subst hx; exact hh
    · rw [upd_other _ _ _ _ e] at hx; exact h.2 u hu x hx
theorem UseH.next {es : List EI} {k j N : Nat} {L : Nat → List Nat} (h : UseH es k j N L) (hj : (tl es k).length ≤ j) : UseH es (k + 1) 0 N L := by
  refine ⟨fun u hu x => ?_, h.2⟩
  rw [h.1 u hu x, List.take_of_length_le hj]
  show _ = (occ es x u k + _) + _
  simp
theorem UseH.full {es : List EI} {N : Nat} {L : Nat → List Nat} (h : UseH es es.length 0 N L) : ∀ t, t < N → ∀ x, (L t).count x = occ es x t es.length := fun t ht x => by
  rw [h.1 t ht x]; simp

/-! ### the search for the next node -/
theorem nextO_some {es : List EI} {N v : Nat} {D : Nat → Bool} (hv : v < N) (h : (!(D v) && readyB es D v) = true) (hb : ∀ u, u < v → (!(D u) && readyB es D u) = false) : nextO es N D = some v := by
  unfold nextO
  rw [List.find?_range_eq_some]
  refine ⟨h, by simpa using hv, fun j hj => by rw [hb j hj]; rfl⟩
theorem nextO_none {es : List EI} {N : Nat} {D : Nat → Bool} (hb : ∀ u, u < N → (!(D u) && readyB es D u) = false) : nextO es N D = none := by
  unfold nextO
  rw [List.find?_eq_none]
  intro x hx
  rw [hb x (List.mem_range.1 hx)]; simp
/-- behind l, with the nodes D done, the rest of the order is still to come -/
def OI (es : List EI) (N : Nat) (D : Nat → Bool) (l : List Nat) : Prop := l.length ≤ N ∧ ordGo es N (N - l.length) D l = ordS es N ∧ (∀ x ∈ l, x < N)
theorem OI.start (es : List EI) (N : Nat) : OI es N (fun _ => false) [] := ⟨Nat.zero_le _, rfl, fun x h => by simp at h⟩
theorem OI.step {es : List EI} {N v : Nat} {D : Nat → Bool} {l : List Nat} (h : OI es N D l) (hl : l.length < N) (hn : nextO es N D = some v) (hv : v < N) : OI es N (upd D v true) (l ++ [v]) := by
  refine ⟨by simp; omega, ?_, fun x hx => ?_⟩
  · rw [← h.2.1]
    obtain ⟨f, hf⟩ : ∃ f, N - l.length = f + 1 := ⟨N - l.length - 1, by omega⟩
    rw [hf]
    simp only [List.length_append, List.length_cons, List.length_nil]
    rw [show N - (l.length + (0 + 1)) = f by omega]
    show _ = (match nextO es N D with | none => none | some v => ordGo es N f (upd D v true) (l ++ [v]))
    rw [hn]
  · rcases List.mem_append.1 hx with hx | hx
    · exact h.2.2 x hx
    · simp only [List.mem_singleton] at hx; subst hx; exact hv
theorem OI.stuck {es : List EI} {N : Nat} {D : Nat → Bool} {l : List Nat} (h : OI es N D l) (hl : l.length < N) (hn : nextO es N D = none) : ordS es N = none := by
  rw [← h.2.1]
  obtain ⟨f, hf⟩ : ∃ f, N - l.length = f + 1 := ⟨N - l.length - 1, by omega⟩
  rw [hf]
  show (match nextO es N D with | none => none | some v => ordGo es N f (upd D v true) (l ++ [v])) = none
  rw [hn]
theorem OI.done {es : List EI} {N : Nat} {D : Nat → Bool} {l : List Nat} (h : OI es N D l) (hl : N ≤ l.length) : ordS es N = some l ∧ l.length = N := by
  have h1 := h.1
  have e : N - l.length = 0 := by omega
  have h2 := h.2.1
  rw [e] at h2
  exact ⟨h2.symm, by omega⟩
/-- one use dealt with: the count of what is missing -/
theorem count_take_succ {L : List Nat} {p i : Nat} (hi : L[p]? = some i) (j : Nat) : (L.take (p + 1)).count j = (L.take p).count j + (if j = i then 1 else 0) := by
  rw [List.take_add_one, hi, List.count_append]
  by_cases e : j = i
  · subst e; simp
  · simp [e, Ne.symm e]
end Go.Proofs.Ytjoejkfchnooaaa
