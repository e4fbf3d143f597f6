/-
  Derivations in the forest are least derivations in the hypergraph, as plain mathematics.
-/
import Derived.Test.YtoiffhoiklafhaaF17m
import Derived.Test.YtoiffhoiklafhaaF20
namespace Go.Proofs.Ytoiffhoiklafhaa
open PK
theorem list_choice {α β : Type} {P : Nat → α → β → Prop} : ∀ (k : List α), (∀ (i : Nat) a, k[i]? = some a → ∃ b, P i a b) → ∃ ks : List β, ks.length = k.length ∧ ∀ (i : Nat) a, k[i]? = some a → ∃ b, ks[i]? = some b ∧ P i a b
  | [], _ => ⟨[], rfl, fun i a h => by simp at h⟩
  | x :: k, h => by
    obtain ⟨b, hb⟩ := h 0 x rfl
    obtain ⟨ks, h1, h2⟩ := list_choice (P := fun i => P (i + 1)) k (fun i a ha => h (i + 1) a (by rw [List.getElem?_cons_succ]; exact ha))
    refine ⟨b :: ks, by simp [h1], fun i a ha => ?_⟩
    cases i with
    | zero =>
      simp only [List.getElem?_cons_zero, Option.some.injEq] at ha
      subst ha
      exact ⟨b, rfl, hb⟩
    | succ i =>
      rw [List.getElem?_cons_succ] at ha
      obtain ⟨c, h3, h4⟩ := h2 i a ha
      exact ⟨c, by rw [List.getElem?_cons_succ]; exact h3, h4⟩
theorem edge_inv {es : List EI} {e : Int} {E : EE} (h : edge (EEs es) e = some E) : ∃ (q : Nat) (x : EI), e = q ∧ es[q]? = some x ∧ toEE x = E := by
  unfold edge at h
  split at h
  · rw [List.getElem?_map] at h
    obtain ⟨x, hx, hE⟩ := Option.map_eq_some_iff.1 h
    exact ⟨e.toNat, x, by omega, hx, hE⟩
  · cases h
theorem val_at {es : List EI} {j : Nat} {x : EI} {ks : List DT} {V : Nat → VV} (hx : es[j]? = some x) (hl : ks.length = x.t.length) (h : ∀ (i : Nat) d t, ks[i]? = some d → x.t[i]? = some t → val (EEs es) d = V t.toNat) : val (EEs es) (.node (j : Int) ks) = ev V (toEE x) := by
  rw [val_node hx]
  unfold ev toEE
  simp only
  congr 1
  apply List.ext_getElem?
  intro i
  rw [List.getElem?_map, List.getElem?_map, List.getElem?_map]
  by_cases hi : i < ks.length
  · obtain ⟨d, hd⟩ := get_lt rfl hi
    obtain ⟨t, ht⟩ := get_lt rfl (show i < x.t.length by omega)
    rw [hd, ht]
    simp [h i d t hd ht]
  · rw [List.getElem?_eq_none (by omega), List.getElem?_eq_none (by omega)]; rfl
theorem map_forest {N : Nat} {V : Nat → VV} {es : List EI} {r : Int} (_hnn : ∀ e ∈ es, 0 ≤ e.h ∧ ∀ t ∈ e.t, 0 ≤ t) (d : DT) : ∀ q : Nat, validD (EEs (fE N V es r)) d (q : Int) = true → ∃ d', mapD ((fI N V es r).map (fun k : Nat => (k : Int))) d = some d' ∧ validD (EEs es) d' (q : Int) = true ∧ val (EEs es) d' = V q ∧ (V q).c < INF := by
  induction d using DT.ind with
  | h e k ih =>
    intro q hv
    obtain ⟨E, e1, e2, e3, e4⟩ := (validD_iff _ _ _ _).1 hv
    obtain ⟨j, x, rfl, hx, rfl⟩ := edge_inv e1
    have hjl := (List.getElem?_eq_some_iff.1 hx).1
    obtain ⟨p, hp⟩ : ∃ p, (fP N V es r)[j]? = some p := ⟨_, List.getElem?_eq_getElem (by unfold fE at hjl; rw [List.length_map] at hjl; exact hjl)⟩
    obtain rfl : p.1 = x := by
      unfold fE at hx
      rw [List.getElem?_map, hp] at hx
      exact Option.some.inj hx
    have hi : (fI N V es r)[j]? = some p.2 := by unfold fI; rw [List.getElem?_map, hp]; rfl
    obtain ⟨hx2, ht, hr⟩ := mem_fP.1 (List.mem_of_getElem? hp)
    have hxm := List.mem_of_getElem? hx2
    have hlen : k.length = p.1.t.length := by rw [← e3]; unfold toEE; simp
    have hh : p.1.h.toNat = q := by have h9 : ((p.1.h.toNat : Nat) : Int) = (q : Int) := e2; omega
    simp only [tgt, Bool.and_eq_true, decide_eq_true_eq] at ht
    obtain ⟨ks, hkl, hks⟩ := list_choice (P := fun i d d' => ∀ t, p.1.t[i]? = some t → mapD ((fI N V es r).map (fun k : Nat => (k : Int))) d = some d' ∧ validD (EEs es) d' (t.toNat : Int) = true ∧ val (EEs es) d' = V t.toNat) k (fun i d hd => by
      obtain ⟨t, htt⟩ := get_lt rfl (show i < p.1.t.length by have := (List.getElem?_eq_some_iff.1 hd).1; omega)
      have hvd := e4 i d t.toNat hd (by unfold toEE; simp only; rw [List.getElem?_map, htt]; rfl)
      obtain ⟨d', p1, p2, p3, _⟩ := ih d (List.mem_of_getElem? hd) t.toNat hvd
      exact ⟨d', fun t' ht' => by rw [htt] at ht'; obtain rfl := Option.some.inj ht'; exact ⟨p1, p2, p3⟩⟩)
    have hget : ∀ (i : Nat) d t, ks[i]? = some d → p.1.t[i]? = some t → ∃ d0, k[i]? = some d0 ∧ mapD ((fI N V es r).map (fun k : Nat => (k : Int))) d0 = some d ∧ validD (EEs es) d (t.toNat : Int) = true ∧ val (EEs es) d = V t.toNat := by
      intro i d t hd htt
      obtain ⟨d0, hd0⟩ := get_lt rfl (show i < k.length by have := (List.getElem?_eq_some_iff.1 hd).1; omega)
      obtain ⟨b, hb, hP⟩ := hks i d0 hd0
      rw [hd] at hb
      obtain rfl := Option.some.inj hb
      exact ⟨d0, hd0, hP t htt⟩
    refine ⟨.node (p.2 : Int) ks, ?_, ?_, ?_, ?_⟩
    · rw [mapD, if_pos ⟨by omega, by rw [List.length_map]; have := (List.getElem?_eq_some_iff.1 hi).1; omega⟩, mapDs_some hkl (fun i d hd => by
        obtain ⟨t, htt⟩ := get_lt rfl (show i < p.1.t.length by have := (List.getElem?_eq_some_iff.1 hd).1; omega)
        obtain ⟨b, hb, hP⟩ := hks i d hd
        exact ⟨b, hb, (hP t htt).1⟩)]
      rw [Option.map_some, Int.toNat_natCast, List.getD_eq_getElem?_getD, List.getElem?_map, hi]
      rfl
    · refine (validD_iff _ _ _ _).2 ⟨toEE p.1, edge_at hx2, e2, by rw [e3, hkl], fun i d t hd htt => ?_⟩
      unfold toEE at htt
      simp only [List.getElem?_map] at htt
      obtain ⟨t', ht', rfl⟩ := Option.map_eq_some_iff.1 htt
      obtain ⟨_, _, _, h2, _⟩ := hget i d t' hd ht'
      exact h2
    · rw [val_at hx2 (by omega) (fun i d t hd htt => by obtain ⟨_, _, _, _, h3⟩ := hget i d t hd htt; exact h3), ht.2, hh]
    · rw [← hh]; exact ht.1
end Go.Proofs.Ytoiffhoiklafhaa
