/-
  An order is topological, as plain mathematics.
-/
import Derived.Test.YtjoejkfchnooaaaHop
namespace Go.Proofs.Ytjoejkfchnooaaa
structure TI (es : List EI) (N : Nat) (D : Nat → Bool) (l : List Nat) : Prop where
  mem : ∀ x, D x = true ↔ x ∈ l
  lt : ∀ x ∈ l, x < N
  inj : ∀ (p q v : Nat), l[p]? = some v → l[q]? = some v → p = q
  top : ∀ (p v : Nat), l[p]? = some v → ∀ i, i < es.length → headAt es i = v → ∀ t ∈ tl es i, ∃ q, q < p ∧ l[q]? = some t
  cnt : nF N D + l.length = N
theorem TI.start (es : List EI) (N : Nat) : TI es N (fun _ => false) [] :=
  ⟨fun x => (by simp), fun x h => (by simp at h), fun p q v h => (by simp at h), fun p v h => (by simp at h), by
    unfold nF
    have : (List.range N).filter (fun _ => !false) = List.range N := List.filter_eq_self.2 (fun _ _ => rfl)
    rw [this]; simp⟩
theorem get_snoc {l : List Nat} {v p x : Nat} (h : (l ++ [v])[p]? = some x) : (p < l.length ∧ l[p]? = some x) ∨ (p = l.length ∧ x = v) := by
  rcases Nat.lt_trichotomy p l.length with h1 | h1 | h1
  · rw [List.getElem?_append_left h1] at h; exact .inl ⟨h1, h⟩
  · subst h1
    rw [List.getElem?_append_right (Nat.le_refl _)] at h
    simp at h; exact .inr ⟨rfl, h.symm⟩
  · rw [List.getElem?_append_right (by omega)] at h
    obtain ⟨k, hk⟩ : ∃ k, p - l.length = k + 1 := ⟨p - l.length - 1, by omega⟩
    rw [hk] at h; simp at h
theorem TI.step {es : List EI} {N v : Nat} {D : Nat → Bool} {l : List Nat} (h : TI es N D l) (hn : nextO es N D = some v) : TI es N (upd D v true) (l ++ [v]) := by
  have hv : v < N := by unfold nextO at hn; exact List.mem_range.1 (List.mem_of_find?_eq_some hn)
  have hp : (!(D v) && readyB es D v) = true := by
    unfold nextO at hn
    have h1 := List.find?_some hn
    simpa using h1
  simp only [Bool.and_eq_true, Bool.not_eq_true'] at hp
  have hvl : v ∉ l := fun e => by have := (h.mem v).2 e; rw [hp.1] at this; cases this
  have hrd := (mis_zero es D v es.length).1 ((ready_iff_mis es D v).1 hp.2)
  refine ⟨fun x => ?_, fun x hx => ?_, fun p q x hp1 hq1 => ?_, fun p x hx i hi hh t ht => ?_, ?_⟩
  · constructor
    · intro hx
      rcases upd_true hx with rfl | hx
      · simp
      · simp [(h.mem x).1 hx]
    · intro hx
      rcases List.mem_append.1 hx with hx | hx
      · exact upd_mono ((h.mem x).2 hx)
      · simp only [List.mem_singleton] at hx; subst hx; exact upd_same _ _ _
  · rcases List.mem_append.1 hx with hx | hx
    · exact h.lt x hx
    · simp only [List.mem_singleton] at hx; subst hx; exact hv
  · rcases get_snoc hp1 with ⟨h1, h2⟩ | ⟨h1, h2⟩ <;> rcases get_snoc hq1 with ⟨h3, h4⟩ | ⟨h3, h4⟩
    · exact h.inj p q x h2 h4
    · subst h4; exact absurd (List.mem_of_getElem? h2) hvl
    · subst h2; exact absurd (List.mem_of_getElem? h4) hvl
    · omega
  · rcases get_snoc hx with ⟨h1, h2⟩ | ⟨h1, h2⟩
    · obtain ⟨q, hq, hq2⟩ := h.top p x h2 i hi hh t ht
      exact ⟨q, hq, by rw [List.getElem?_append_left (by omega)]; exact hq2⟩
    · subst h2
      have hD := hrd i hi hh t ht
      obtain ⟨q, hq⟩ := List.mem_iff_getElem?.1 ((h.mem t).1 hD)
      have hql := (List.getElem?_eq_some_iff.1 hq).1
      exact ⟨q, by omega, by rw [List.getElem?_append_left hql]; exact hq⟩
  · have := nF_upd N v D hv hp.1
    have := h.cnt
    simp only [List.length_append, List.length_cons, List.length_nil]
    omega
theorem ordGo_top (es : List EI) (N : Nat) : ∀ (f : Nat) (D : Nat → Bool) (l r : List Nat), TI es N D l → ordGo es N f D l = some r → ∃ D', TI es N D' r ∧ r.length = l.length + f
  | 0, D, l, r, h, hr => by
    unfold ordGo at hr
    obtain rfl := Option.some.inj hr
    exact ⟨D, h, rfl⟩
  | f + 1, D, l, r, h, hr => by
    unfold ordGo at hr
    cases hn : nextO es N D with
    | none => rw [hn] at hr; cases hr
    | some v =>
      rw [hn] at hr
      obtain ⟨D', h1, h2⟩ := ordGo_top es N f _ _ r (h.step hn) hr
      exact ⟨D', h1, by rw [h2]; simp; omega⟩
theorem nF_zero {N : Nat} {D : Nat → Bool} (h : nF N D = 0) : ∀ v, v < N → D v = true := by
  intro v hv
  unfold nF at h
  have h1 := List.eq_nil_of_length_eq_zero h
  cases hd : D v with
  | true => rfl
  | false =>
    have : v ∈ (List.range N).filter (fun i => !D i) := List.mem_filter.2 ⟨List.mem_range.2 hv, by simp [hd]⟩
    rw [h1] at this; simp at this
/-- what an order is good for: every node has one place, tails before heads -/
theorem ordS_top {es : List EI} {N : Nat} {l : List Nat} (h : ordS es N = some l) : l.length = N ∧ (∀ x ∈ l, x < N) ∧ (∀ (p q v : Nat), l[p]? = some v → l[q]? = some v → p = q) ∧ (∀ v, v < N → ∃ p : Nat, l[p]? = some v) ∧
    (∀ i, i < es.length → headAt es i < N → ∀ t ∈ tl es i, ∀ (p q : Nat), l[p]? = some (headAt es i) → l[q]? = some t → q < p) := by
  obtain ⟨D, h1, h2⟩ := ordGo_top es N N _ _ l (TI.start es N) h
  have hlen : l.length = N := by simpa using h2
  have h0 : nF N D = 0 := by have := h1.cnt; omega
  refine ⟨hlen, h1.lt, h1.inj, fun v hv => List.mem_iff_getElem?.1 ((h1.mem v).1 (nF_zero h0 v hv)), fun i hi hh t ht p q hp hq => ?_⟩
  obtain ⟨q', hq', hq2⟩ := h1.top p _ hp i hi rfl t ht
  rw [h1.inj q q' t hq hq2]
  exact hq'
end Go.Proofs.Ytjoejkfchnooaaa
