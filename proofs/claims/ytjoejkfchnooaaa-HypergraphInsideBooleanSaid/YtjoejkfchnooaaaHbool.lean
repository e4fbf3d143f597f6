/-
  Inside values over the truth values: the derivable nodes.
-/
import Derived.Test.YtjoejkfchnooaaaHtop
import Derived.Test.YtjoejkfchnooaaaHins
namespace Go.Proofs.Ytjoejkfchnooaaa
theorem foldl_and {α : Type} (f : α → Bool) : ∀ (l : List α) (b : Bool), l.foldl (fun a t => a && f t) b = (b && l.all f)
  | [], b => by simp
  | x :: l, b => by rw [List.foldl_cons, foldl_and f l, List.all_cons, Bool.and_assoc]
theorem foldl_or {α : Type} (f : α → Bool) : ∀ (l : List α) (b : Bool), l.foldl (fun a t => a || f t) b = (b || l.any f)
  | [], b => by simp
  | x :: l, b => by rw [List.foldl_cons, foldl_or f l, List.any_cons, Bool.or_assoc]
abbrev andB (a b : Bool) : Bool := a && b
abbrev orB (a b : Bool) : Bool := a || b
abbrev trueL (n : Nat) : List Bool := (List.range n).map (fun _ => true)
theorem nodeB (es : List EI) (O : Nat → Bool) (v : Nat) : nodeV false false andB orB es (trueL es.length) es.length O v = true ↔ ∃ i, i < es.length ∧ headAt es i = v ∧ ∀ t ∈ tl es i, O t = true := by
  unfold nodeV
  have e : ∀ (l : List Nat) (b : Bool), (∀ i ∈ l, i < es.length) → l.foldl (fun s i => orB s (edgeV andB es O ((trueL es.length).getD i false) i)) b = l.foldl (fun s i => s || (tl es i).all O) b := by
    intro l
    induction l with
    | nil => intro b _; rfl
    | cons x l ih =>
      intro b hl
      rw [List.foldl_cons, List.foldl_cons]
      have hx : (trueL es.length).getD x false = true := by
        unfold trueL
        rw [List.getD_eq_getElem?_getD, List.getElem?_map, List.getElem?_range (hl x (by simp))]; rfl
      have he : edgeV andB es O ((trueL es.length).getD x false) x = (tl es x).all O := by
        rw [hx]
        unfold edgeV
        have := foldl_and O (tl es x) true
        rw [Bool.true_and] at this
        exact this
      rw [he]
      exact ih _ (fun i hi => hl i (by simp [hi]))
  rw [e _ _ (fun i hi => (mem_eof.1 hi).1), foldl_or, Bool.false_or, List.any_eq_true]
  constructor
  · rintro ⟨i, hi, h⟩
    exact ⟨i, (mem_eof.1 hi).1, (mem_eof.1 hi).2, fun t ht => List.all_eq_true.1 h t ht⟩
  · rintro ⟨i, h1, h2, h3⟩
    exact ⟨i, mem_eof.2 ⟨h1, h2⟩, List.all_eq_true.2 h3⟩
theorem Der.inv {es : List EI} {v : Nat} (h : Der es v) : ∃ i, i < es.length ∧ headAt es i = v ∧ ∀ t ∈ tl es i, Der es t := by
  cases h with
  | mk i hi ht => exact ⟨i, hi, rfl, ht⟩
theorem ins_bool {es : List EI} {N : Nat} {l : List Nat} (h : ordS es N = some l) (ht : ∀ i t, t ∈ tl es i → t < N) :
    ∀ v, v < N → (insO false false andB orB es (trueL es.length) es.length l v = true ↔ Der es v) := by
  obtain ⟨hlen, hlt, hinj, hall, htop⟩ := ordS_top h
  have key : ∀ k, k ≤ l.length → ∀ v, ((l.take k).foldl (insStep false false andB orB es (trueL es.length) es.length) (fun _ => false) v = true ↔ (∃ p, p < k ∧ l[p]? = some v) ∧ Der es v) := by
    intro k
    induction k with
    | zero =>
      intro _ v
      simp
    | succ k ih =>
      intro hk v
      have ihk := ih (by omega)
      obtain ⟨x, hx⟩ : ∃ x, l[k]? = some x := ⟨_, List.getElem?_eq_getElem (by omega)⟩
      rw [List.take_add_one, hx, List.foldl_append]
      simp only [Option.toList_some, List.foldl_cons, List.foldl_nil]
      generalize hO : (l.take k).foldl (insStep false false andB orB es (trueL es.length) es.length) (fun _ => false) = O at ihk ⊢
      unfold insStep
      by_cases e : v = x
      · subst e
        rw [upd_same, nodeB]
        constructor
        · rintro ⟨i, hi, hh, hti⟩
          refine ⟨⟨k, by omega, hx⟩, ?_⟩
          rw [← hh]
          exact .mk i hi (fun t htm => ((ihk t).1 (hti t htm)).2)
        · rintro ⟨_, hd⟩
          obtain ⟨i, hi, hh, hti⟩ := hd.inv
          refine ⟨i, hi, hh, fun t htm => (ihk t).2 ⟨?_, hti t htm⟩⟩
          obtain ⟨q, hq⟩ := hall t (ht i t htm)
          exact ⟨q, htop i hi (by rw [hh]; exact hlt v (List.mem_of_getElem? hx)) t htm k q (by rw [hh]; exact hx) hq, hq⟩
      · rw [upd_other _ _ _ _ e, ihk]
        constructor
        · rintro ⟨⟨p, hp, hp2⟩, hd⟩
          exact ⟨⟨p, by omega, hp2⟩, hd⟩
        · rintro ⟨⟨p, hp, hp2⟩, hd⟩
          refine ⟨⟨p, ?_, hp2⟩, hd⟩
          by_cases e2 : p = k
          · subst e2; rw [hx] at hp2; exact absurd (Option.some.inj hp2).symm e
          · omega
  intro v hv
  have h1 := key l.length (Nat.le_refl _) v
  rw [List.take_of_length_le (Nat.le_refl _)] at h1
  unfold insO
  rw [h1]
  constructor
  · exact fun h => h.2
  · intro hd
    obtain ⟨p, hp⟩ := hall v hv
    exact ⟨⟨p, (List.getElem?_eq_some_iff.1 hp).1, hp⟩, hd⟩
theorem ins_derL {es : List EI} {N : Nat} {l : List Nat} (h : ordS es N = some l) (ht : ∀ i t, t ∈ tl es i → t < N) : (List.range N).map (insO false false andB orB es (trueL es.length) es.length l) = derL es N :=
  (derL_eq (fun i hi => ins_bool h ht i hi)).symm
theorem tl_lt {es : List EI} {N : Nat} (h : ∀ e ∈ es, ∀ t ∈ e.t, 0 ≤ t ∧ t < N) : ∀ i t, t ∈ tl es i → t < N := by
  intro i t ht
  unfold tl at ht
  cases he : es[i]? with
  | none => rw [he] at ht; simp at ht
  | some e =>
    rw [he] at ht
    obtain ⟨y, hy, rfl⟩ := List.mem_map.1 ht
    have := h e (List.mem_of_getElem? he) y hy
    omega
end Go.Proofs.Ytjoejkfchnooaaa
