/-
  The uses noted, as plain mathematics.
-/
import Derived.Test.YtleapckcihcpaaaPset
namespace Go.Proofs.PK
/-- hyperedges before k, and of k the first j tails, are noted -/
def UsP (es : List EE) (k j : Nat) (L : Nat → List Nat) : Prop := ∀ (v i : Nat), (L v).count i = if i < k then ((es[i]?).map (fun e => e.t.count v)).getD 0 else if i = k then ((es[i]?).map (fun e => (e.t.take j).count v)).getD 0 else 0
theorem UsP.start (es : List EE) : UsP es 0 0 (fun _ => []) := by
  intro v i
  simp only [List.count_nil]
  split
  · omega
  · split
    · cases es[i]? <;> simp
    · rfl
theorem UsP.push {es : List EE} {k j t : Nat} {L : Nat → List Nat} {e : EE} (h : UsP es k j L) (he : es[k]? = some e) (ht : e.t[j]? = some t) : UsP es k (j + 1) (upd L t (L t ++ [k])) := by
  intro v i
  have h1 := h v i
  by_cases ev : v = t
  · subst ev
    rw [upd_same, List.count_append, h1]
    by_cases e1 : i < k
    · rw [if_pos e1, if_pos e1]
      have : (k == i) = false := by simp; omega
      simp [List.count_cons, this]
    · rw [if_neg e1, if_neg e1]
      by_cases e2 : i = k
      · subst e2
        rw [if_pos rfl, if_pos rfl, he]
        simp only [Option.map_some, Option.getD_some]
        rw [List.take_add_one, ht, List.count_append]
        simp
      · rw [if_neg e2, if_neg e2]
        have : (k == i) = false := by simp; omega
        simp [List.count_cons, this]
  · rw [upd_other _ _ _ _ ev, h1]
    by_cases e1 : i < k
    · rw [if_pos e1, if_pos e1]
    · rw [if_neg e1, if_neg e1]
      by_cases e2 : i = k
      · subst e2
        rw [if_pos rfl, if_pos rfl, he]
        simp only [Option.map_some, Option.getD_some]
        rw [List.take_add_one, ht, List.count_append]
        have : (t == v) = false := by simp; exact fun h => ev h.symm
        simp [List.count_cons, this]
      · rw [if_neg e2, if_neg e2]
theorem UsP.next {es : List EE} {k j : Nat} {L : Nat → List Nat} {e : EE} (h : UsP es k j L) (he : es[k]? = some e) (hj : e.t.length ≤ j) : UsP es (k + 1) 0 L := by
  intro v i
  rw [h v i]
  by_cases e1 : i < k
  · rw [if_pos e1, if_pos (by omega)]
  · rw [if_neg e1]
    by_cases e2 : i = k
    · subst e2
      rw [if_pos rfl, if_pos (by omega), he]
      simp only [Option.map_some, Option.getD_some]
      rw [List.take_of_length_le hj]
    · rw [if_neg e2, if_neg (by omega)]
      by_cases e3 : i = k + 1
      · rw [if_pos e3]
        cases es[i]? <;> simp
      · rw [if_neg e3]
theorem UsP.all {es : List EE} {L : Nat → List Nat} (h : UsP es es.length 0 L) : UseC es L ∧ ∀ v, ∀ i ∈ L v, i < es.length := by
  refine ⟨fun v k e hk => ?_, fun v i hi => ?_⟩
  · have hlt := (List.getElem?_eq_some_iff.1 hk).1
    rw [h v k, if_pos hlt, hk]; rfl
  · refine Classical.byContradiction (fun hn => ?_)
    have h1 : 0 < (L v).count i := List.count_pos_iff.2 hi
    rw [h v i, if_neg hn] at h1
    rw [List.getElem?_eq_none (by omega)] at h1
    simp at h1
theorem upd_len {L : Nat → List Nat} {t k M : Nat} (h : ∀ v, (L v).length ≤ M) : ∀ v, (upd L t (L t ++ [k]) v).length ≤ M + 1 := by
  intro v
  unfold upd
  split
  · have := h t; simp; omega
  · have := h v; omega
/-- the first offers: hyperedges before k without tails were offered -/
theorem KI.first {es : List EE} (hes : ∀ e ∈ es, okE e) (O : Nat → Nat) : KI es (fun _ => false) (fun _ => top) O [] [] ⟨0, 0⟩ (fun i => i < 0) := KI.start hes O _ (fun k h => by omega)
theorem leV_zero {v : VV} (h : okV v) : leV ⟨0, 0⟩ v := by
  obtain ⟨h1, h2, h3, h4, _⟩ := h
  unfold leV
  simp only
  omega
theorem mis_none (t : List Nat) : mis (fun _ => false) t = t.length := by
  unfold mis
  simp
end Go.Proofs.PK
