/-
  Knuth's algorithm as plain mathematics: a node is settled, its uses are gone through.
-/
import Derived.Test.YtleapckcihcpaaaPref
namespace Go.Proofs.PK
/-- how many of the first n numbers are not nought -/
def cnt (O : Nat → Nat) : Nat → Nat
  | 0 => 0
  | n + 1 => cnt O n + (if 0 < O n then 1 else 0)
theorem cnt_congr {O P : Nat → Nat} : ∀ n, (∀ i, i < n → O i = P i) → cnt O n = cnt P n
  | 0, _ => rfl
  | n + 1, h => by rw [cnt, cnt, cnt_congr n (fun i hi => h i (by omega)), h n (by omega)]
theorem cnt_upd (O : Nat → Nat) (k x : Nat) : ∀ n, k < n → cnt (upd O k x) n + (if 0 < O k then 1 else 0) = cnt O n + (if 0 < x then 1 else 0)
  | 0, h => by omega
  | n + 1, h => by
    rw [cnt, cnt]
    by_cases e : k = n
    · subst e
      rw [upd_same, cnt_congr (O := upd O k x) (P := O) k (fun i hi => upd_other _ _ _ _ (by omega))]
      omega
    · rw [upd_other _ _ _ _ (fun h => e h.symm)]
      have := cnt_upd O k x n (by omega)
      omega
section
variable {es : List EE}
/-- an offer, the agenda told by its elements -/
theorem KI.offered {S : Nat → Bool} {V : Nat → VV} {o : Nat → Nat} {ag : List (Nat × VV)} {L : List Nat} {x : VV} {don : Nat → Prop} (h : KI es S V o ag L x don) (hes : ∀ e ∈ es, okE e)
    {k : Nat} {e : EE} (he : es[k]? = some e) (ht : ∀ t ∈ e.t, S t = true) (hx : leV x (ev V e)) (o' : Nat → Nat) (don' : Nat → Prop) (ho : ∀ i, i ≠ k → don' i → don i ∧ (o' i = 0 → o i = 0)) (ag' : List (Nat × VV))
    (hag : ((ev V e).c < INF ∧ S e.h = false ∧ ∀ y, y ∈ ag' ↔ y = (e.h, ev V e) ∨ y ∈ ag) ∨ (¬ ((ev V e).c < INF ∧ S e.h = false) ∧ ∀ y, y ∈ ag' ↔ y ∈ ag)) : KI es S V o' ag' L x don' := by
  refine KI.perm (h.offer hes he ht hx o' don' ho _ rfl) (fun y => ?_)
  rcases hag with ⟨h1, h2, h3⟩ | ⟨h1, h2⟩
  · rw [if_pos ⟨h1, h2⟩, h3 y, List.mem_append, List.mem_singleton]
    exact Or.comm
  · rw [if_neg h1, h2 y]
variable (es)
/-- every use is noted, once for each occurrence -/
def UseC (L : Nat → List Nat) : Prop := ∀ (v k : Nat) (e : EE), es[k]? = some e → (L v).count k = e.t.count v
/-- between two pops -/
structure MI (S : Nat → Bool) (V : Nat → VV) (O : Nat → Nat) (ag : List (Nat × VV)) (D : List Nat) (x : VV) (m nx : Nat) : Prop where
  ki : KI es S V O ag D x (fun _ => True)
  om : ∀ (k : Nat) (e : EE), es[k]? = some e → O k = mis S e.t
  fin : ∀ v, S v = true → (V v).c < INF
  nx : nx + cnt O es.length ≤ es.length
/-- while the uses Ls of node u are gone through; p are done -/
structure SJ (u : Nat) (Ls : List Nat) (p : Nat) (M : Nat) (S : Nat → Bool) (V : Nat → VV) (O : Nat → Nat) (ag : List (Nat × VV)) (D : List Nat) (x : VV) (m nx : Nat) : Prop where
  ki : KI es S V O ag D x (fun _ => True)
  om : ∀ (k : Nat) (e : EE), es[k]? = some e → O k = mis S e.t + (Ls.drop p).count k
  fin : ∀ v, S v = true → (V v).c < INF
  nx : nx + cnt O es.length ≤ es.length
  ms : m + cnt O es.length ≤ M
  vu : V u = x
variable {es}
theorem MI.settle {S : Nat → Bool} {V : Nat → VV} {O : Nat → Nat} {ag ag' : List (Nat × VV)} {D : List Nat} {x : VV} {m nx : Nat} {L : Nat → List Nat} (h : MI es S V O ag D x (m + 1) nx) (hes : ∀ e ∈ es, okE e) (hL : UseC es L)
    {c : Nat × VV} (hc : ∀ d, d ∈ ag ↔ d = c ∨ d ∈ ag') (hs : S c.1 = false) (hmin : ∀ d ∈ ag', leV c.2 d.2) :
    SJ es c.1 (L c.1) 0 (m + cnt O es.length) (upd S c.1 true) (upd V c.1 c.2) O ag' (D ++ [c.1]) c.2 m nx := by
  have hcand := h.ki.cand c ((hc c).2 (.inl rfl))
  refine ⟨h.ki.settle hes (fun k e hk _ h0 => by rw [← h.om k e hk]; exact h0) hc hs hmin, fun k e hk => ?_, fun v hv => ?_, h.nx, Nat.le_refl _, upd_same _ _ _⟩
  · rw [h.om k e hk, mis_upd S c.1 hs e.t, List.drop_zero, hL c.1 k e hk]
  · by_cases e : v = c.1
    · subst e; rw [upd_same]; exact hcand.2.1
    · rw [upd_other _ _ _ _ e] at hv ⊢; exact h.fin v hv
theorem SJ.done {u p M m nx : Nat} {Ls : List Nat} {S : Nat → Bool} {V : Nat → VV} {O : Nat → Nat} {ag : List (Nat × VV)} {D : List Nat} {x : VV} (h : SJ es u Ls p M S V O ag D x m nx) (hp : Ls.length ≤ p) : MI es S V O ag D x m nx :=
  ⟨h.ki, fun k e hk => by rw [h.om k e hk, List.drop_of_length_le hp]; simp, h.fin, h.nx⟩
theorem drop_cons {l : List Nat} {p k : Nat} (h : l[p]? = some k) : l.drop p = k :: l.drop (p + 1) := by
  obtain ⟨hp, he⟩ := List.getElem?_eq_some_iff.1 h
  rw [List.drop_eq_getElem_cons hp, he]
/-- what is known at a use -/
theorem SJ.at {u p M m nx k : Nat} {L : Nat → List Nat} {S : Nat → Bool} {V : Nat → VV} {O : Nat → Nat} {ag : List (Nat × VV)} {D : List Nat} {x : VV} (h : SJ es u (L u) p M S V O ag D x m nx) (hL : UseC es L) (hk : (L u)[p]? = some k) (hb : ∀ i ∈ L u, i < es.length) :
    ∃ e, es[k]? = some e ∧ 0 < O k ∧ u ∈ e.t := by
  have hm := List.mem_of_getElem? hk
  have hlt := hb k hm
  refine ⟨es[k], List.getElem?_eq_getElem hlt, ?_, ?_⟩
  · rw [h.om k _ (List.getElem?_eq_getElem hlt), drop_cons hk, List.count_cons_self]
    omega
  · have h1 := hL u k _ (List.getElem?_eq_getElem hlt)
    have h2 : 0 < (L u).count k := List.count_pos_iff.2 hm
    rw [h1] at h2
    exact List.count_pos_iff.1 h2
theorem SJ.om' {u p M m nx k : Nat} {Ls : List Nat} {S : Nat → Bool} {V : Nat → VV} {O : Nat → Nat} {ag : List (Nat × VV)} {D : List Nat} {x : VV} (h : SJ es u Ls p M S V O ag D x m nx) (hk : Ls[p]? = some k) (h0 : 0 < O k) :
    ∀ (i : Nat) (e : EE), es[i]? = some e → upd O k (O k - 1) i = mis S e.t + (Ls.drop (p + 1)).count i := by
  intro i e hi
  have h1 := h.om i e hi
  rw [drop_cons hk, List.count_cons] at h1
  by_cases e1 : i = k
  · subst e1
    rw [upd_same]
    simp at h1
    omega
  · rw [upd_other _ _ _ _ e1, h1]
    have : (k == i) = false := by simp; exact fun h => e1 h.symm
    rw [this]
    simp
/-- the count has not come to nought -/
theorem SJ.skip {u p M m nx k : Nat} {Ls : List Nat} {S : Nat → Bool} {V : Nat → VV} {O : Nat → Nat} {ag : List (Nat × VV)} {D : List Nat} {x : VV} (h : SJ es u Ls p M S V O ag D x m nx) (hk : Ls[p]? = some k) (hkl : k < es.length) (h0 : 0 < O k) (h1 : O k - 1 ≠ 0) :
    SJ es u Ls (p + 1) M S V (upd O k (O k - 1)) ag D x m nx := by
  have hc := cnt_upd O k (O k - 1) es.length hkl
  rw [if_pos h0, if_pos (by omega)] at hc
  refine ⟨h.ki.again _ _ (fun i _ hi => ⟨trivial, ?_⟩), h.om' hk h0, h.fin, by have := h.nx; omega, by have := h.ms; omega, h.vu⟩
  by_cases e : i = k
  · subst e; rw [upd_same] at hi; exact absurd hi h1
  · rw [upd_other _ _ _ _ e] at hi; exact hi
/-- the count has come to nought: the hyperedge is offered -/
theorem SJ.offer {u p M m nx k m' nx' : Nat} {Ls : List Nat} {S : Nat → Bool} {V : Nat → VV} {O : Nat → Nat} {ag ag' : List (Nat × VV)} {D : List Nat} {x : VV} (h : SJ es u Ls p M S V O ag D x m nx) (hes : ∀ e ∈ es, okE e) (hk : Ls[p]? = some k) (h0 : 0 < O k) (h1 : O k - 1 = 0) {e : EE} (he : es[k]? = some e) (hu : u ∈ e.t)
    (hag : ((ev V e).c < INF ∧ S e.h = false ∧ nx' = nx + 1 ∧ m' = m + 1 ∧ ∀ y, y ∈ ag' ↔ y = (e.h, ev V e) ∨ y ∈ ag) ∨ (¬ ((ev V e).c < INF ∧ S e.h = false) ∧ nx' = nx ∧ m' = m ∧ ∀ y, y ∈ ag' ↔ y ∈ ag)) :
    SJ es u Ls (p + 1) M S V (upd O k (O k - 1)) ag' D x m' nx' := by
  have hkl := (List.getElem?_eq_some_iff.1 he).1
  have hc := cnt_upd O k (O k - 1) es.length hkl
  rw [if_pos h0, if_neg (by omega)] at hc
  have hom := h.om' hk h0
  have hall : ∀ t ∈ e.t, S t = true := mis_zero.1 (by have := hom k e he; rw [upd_same, h1] at this; omega)
  have hmem := List.mem_of_getElem? he
  have hx : leV x (ev V e) := by
    rw [← h.vu]
    exact ev_sup (hes e hmem) h.ki.ok hu
  refine ⟨h.ki.offered hes he hall hx _ _ (fun i hi _ => ⟨trivial, fun h9 => by rw [upd_other _ _ _ _ hi] at h9; exact h9⟩) ag' ?_, hom, h.fin, ?_, ?_, h.vu⟩
  · rcases hag with ⟨a1, a2, _, _, a3⟩ | ⟨a1, _, _, a2⟩
    · exact .inl ⟨a1, a2, a3⟩
    · exact .inr ⟨a1, a2⟩
  · have := h.nx
    rcases hag with ⟨_, _, a3, _, _⟩ | ⟨_, a3, _, _⟩ <;> omega
  · have := h.ms
    rcases hag with ⟨_, _, _, a3, _⟩ | ⟨_, _, a3, _⟩ <;> omega
/-- a candidate of a settled node is dropped -/
theorem MI.drop {S : Nat → Bool} {V : Nat → VV} {O : Nat → Nat} {ag ag' : List (Nat × VV)} {D : List Nat} {x : VV} {m nx : Nat} (h : MI es S V O ag D x (m + 1) nx) {c : Nat × VV} (hc : ∀ d, d ∈ ag ↔ d = c ∨ d ∈ ag') (hs : S c.1 = true) : MI es S V O ag' D x m nx :=
  ⟨h.ki.drop hc hs, h.om, h.fin, h.nx⟩
/-- the agenda is empty -/
theorem MI.sol {S : Nat → Bool} {V : Nat → VV} {O : Nat → Nat} {D : List Nat} {x : VV} {m nx : Nat} (h : MI es S V O [] D x m nx) (hes : ∀ e ∈ es, okE e) : Sol es V :=
  sol_of_reached hes h.ki.ok (fun v => h.ki.reached v) (h.ki.closed hes (fun k e hk => ⟨trivial, h.om k e hk⟩))
end
end Go.Proofs.PK
