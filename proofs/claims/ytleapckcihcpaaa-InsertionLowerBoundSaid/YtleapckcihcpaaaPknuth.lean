/-
  Knuth's algorithm as plain mathematics: what holds while nodes are settled, and what its end has found.
-/
import Derived.Test.YtleapckcihcpaaaPkval
namespace Go.Proofs.PK
def upd {α : Type} (f : Nat → α) (i : Nat) (x : α) : Nat → α := fun j => if j = i then x else f j
theorem upd_same {α : Type} (f : Nat → α) (i : Nat) (x : α) : upd f i x i = x := if_pos rfl
theorem upd_other {α : Type} (f : Nat → α) (i j : Nat) (x : α) (h : j ≠ i) : upd f i x j = f j := if_neg h
/-- how many of a hyperedge's tails are not settled -/
def mis (S : Nat → Bool) (t : List Nat) : Nat := t.countP (fun v => !(S v))
theorem mis_zero {S : Nat → Bool} {t : List Nat} : mis S t = 0 ↔ ∀ v ∈ t, S v = true := by
  unfold mis; rw [List.countP_eq_zero]; simp
theorem mis_upd (S : Nat → Bool) (u : Nat) (hu : S u = false) : ∀ t : List Nat, mis S t = mis (upd S u true) t + t.count u
  | [] => rfl
  | v :: t => by
    have ih := mis_upd S u hu t
    unfold mis at *
    simp only [List.countP_cons, List.count_cons]
    by_cases e : v = u
    · subst e; simp [hu, upd_same]; omega
    · rw [upd_other _ _ _ _ e]
      have : (v == u) = false := by simp [e]
      rw [this]
      simp
      omega
theorem ev_upd {V : Nat → VV} {n : Nat} {y : VV} {e : EE} (h : n ∉ e.t) : ev (upd V n y) e = ev V e := by
  unfold ev
  congr 1
  refine List.map_congr_left (fun t ht => upd_other _ _ _ _ (fun e => h (e ▸ ht)))
section
variable (es : List EE)
/-- settled in an order: each by a hyperedge whose tails came before -/
def Ordered (V : Nat → VV) (L : List Nat) : Prop := ∀ (i v : Nat), L[i]? = some v → ∃ e ∈ es, e.h = v ∧ (∀ t ∈ e.t, t ∈ L.take i) ∧ V v = ev V e
/-- the state: settled, values, how many tails are open, the agenda; x: no candidate is less -/
structure KI (S : Nat → Bool) (V : Nat → VV) (o : Nat → Nat) (ag : List (Nat × VV)) (L : List Nat) (x : VV) (don : Nat → Prop) : Prop where
  ok : ∀ v, okV (V v)
  un : ∀ v, S v = false → V v = top
  mem : ∀ v, S v = true ↔ v ∈ L
  ord : Ordered es V L
  cand : ∀ c ∈ ag, (∃ e ∈ es, e.h = c.1 ∧ (∀ t ∈ e.t, S t = true) ∧ c.2 = ev V e) ∧ c.2.c < INF ∧ leV x c.2
  low : ∀ v, S v = true → leV (V v) x
  off : ∀ (k : Nat) (e : EE), es[k]? = some e → don k → o k = 0 → ev V e = top ∨ (S e.h = true ∧ leV (V e.h) (ev V e)) ∨ (e.h, ev V e) ∈ ag
variable {es}
theorem KI.start (_hes : ∀ e ∈ es, okE e) (o : Nat → Nat) (don : Nat → Prop) (hd : ∀ k, ¬ don k) : KI es (fun _ => false) (fun _ => top) o [] [] ⟨0, 0⟩ don :=
  ⟨fun _ => okV_top, fun _ _ => rfl, fun _ => by simp, fun i v h => by simp at h, fun c h => by simp at h, fun v h => by simp at h, fun k e _ h => absurd h (hd k)⟩
/-- the value that a hyperedge offers -/
theorem ev_ok {V : Nat → VV} {e : EE} (he : okE e) (hV : ∀ v, okV (V v)) : okV (ev V e) := comb_ok he (fun v hv => by obtain ⟨t, _, rfl⟩ := List.mem_map.1 hv; exact hV t)
theorem ev_top {V : Nat → VV} {e : EE} (he : okE e) (hV : ∀ v, okV (V v)) {t : Nat} (ht : t ∈ e.t) (h : V t = top) : ev V e = top := comb_top he (fun v hv => by obtain ⟨t, _, rfl⟩ := List.mem_map.1 hv; exact hV t) (List.mem_map.2 ⟨t, ht, h⟩)
theorem ev_sup {V : Nat → VV} {e : EE} (he : okE e) (hV : ∀ v, okV (V v)) {t : Nat} (ht : t ∈ e.t) : leV (V t) (ev V e) := comb_sup he (fun v hv => by obtain ⟨t, _, rfl⟩ := List.mem_map.1 hv; exact hV t) (List.mem_map.2 ⟨t, ht, rfl⟩)
theorem not_top {v : VV} (_h : okV v) (h2 : v.c < INF) : v ≠ top := fun e => by rw [e] at h2; unfold top at h2; simp at h2
theorem top_of {v : VV} (h : okV v) (h2 : ¬ v.c < INF) : v = top := by
  obtain ⟨h1, h3, h4, h5, h6⟩ := h
  have : v.c = INF := by omega
  cases v
  simp only at *
  unfold top
  rw [this, h6 this]
/-- a hyperedge is offered (or need not be): the agenda grows or stays -/
theorem KI.offer {S : Nat → Bool} {V : Nat → VV} {o : Nat → Nat} {ag : List (Nat × VV)} {L : List Nat} {x : VV} {don : Nat → Prop} (h : KI es S V o ag L x don) (hes : ∀ e ∈ es, okE e)
    {k : Nat} {e : EE} (he : es[k]? = some e) (ht : ∀ t ∈ e.t, S t = true) (hx : leV x (ev V e)) (o' : Nat → Nat) (don' : Nat → Prop) (ho : ∀ i, i ≠ k → don' i → don i ∧ (o' i = 0 → o i = 0)) (ag' : List (Nat × VV))
    (hag : ag' = if (ev V e).c < INF ∧ S e.h = false then ag ++ [(e.h, ev V e)] else ag) : KI es S V o' ag' L x don' := by
  have hem := List.mem_of_getElem? he
  have hsub : ∀ c ∈ ag, c ∈ ag' := fun c hc => by rw [hag]; split <;> simp [hc]
  refine ⟨h.ok, h.un, h.mem, h.ord, ?_, h.low, ?_⟩
  · intro c hc
    rw [hag] at hc
    split at hc
    · rename_i hh
      rcases List.mem_append.1 hc with hc | hc
      · exact h.cand c hc
      · simp only [List.mem_singleton] at hc
        subst hc
        exact ⟨⟨e, hem, rfl, ht, rfl⟩, hh.1, hx⟩
    · exact h.cand c hc
  · intro i e2 hi hd h0
    by_cases hik : i = k
    · subst hik
      rw [he] at hi
      obtain rfl := Option.some.inj hi
      by_cases h1 : (ev V e).c < INF
      · cases h2 : S e.h with
        | false => exact .inr (.inr (by rw [hag, if_pos ⟨h1, h2⟩]; simp))
        | true => exact .inr (.inl ⟨rfl, leV_trans (h.low _ h2) hx⟩)
      · exact .inl (top_of (ev_ok (hes e hem) h.ok) h1)
    · obtain ⟨d1, d2⟩ := ho i hik hd
      rcases h.off i e2 hi d1 (d2 h0) with h3 | h3 | h3
      · exact .inl h3
      · exact .inr (.inl h3)
      · exact .inr (.inr (hsub _ h3))
/-- the counts go on: what is not done yet need not be offered -/
theorem KI.again {S : Nat → Bool} {V : Nat → VV} {o : Nat → Nat} {ag : List (Nat × VV)} {L : List Nat} {x : VV} {don : Nat → Prop} (h : KI es S V o ag L x don) (o' : Nat → Nat) (don' : Nat → Prop) (ho : ∀ i, don' i → o' i = 0 → don i ∧ o i = 0) : KI es S V o' ag L x don' :=
  ⟨h.ok, h.un, h.mem, h.ord, h.cand, h.low, fun k e hk hd h0 => h.off k e hk (ho k hd h0).1 (ho k hd h0).2⟩
/-- the agenda in another order -/
theorem KI.perm {S : Nat → Bool} {V : Nat → VV} {o : Nat → Nat} {ag ag' : List (Nat × VV)} {L : List Nat} {x : VV} {don : Nat → Prop} (h : KI es S V o ag L x don) (hp : ∀ c, c ∈ ag' ↔ c ∈ ag) : KI es S V o ag' L x don :=
  ⟨h.ok, h.un, h.mem, h.ord, fun c hc => h.cand c ((hp c).1 hc), h.low, fun k e hk hd h0 => by
    rcases h.off k e hk hd h0 with h3 | h3 | h3
    · exact .inl h3
    · exact .inr (.inl h3)
    · exact .inr (.inr ((hp _).2 h3))⟩
/-- a candidate of a settled node is dropped -/
theorem KI.drop {S : Nat → Bool} {V : Nat → VV} {o : Nat → Nat} {ag ag' : List (Nat × VV)} {L : List Nat} {x : VV} {don : Nat → Prop} (h : KI es S V o ag L x don) {c : Nat × VV} (hc : ∀ d, d ∈ ag ↔ d = c ∨ d ∈ ag') (hs : S c.1 = true) : KI es S V o ag' L x don :=
  ⟨h.ok, h.un, h.mem, h.ord, fun d hd => h.cand d ((hc d).2 (.inr hd)), h.low, fun k e hk hd h0 => by
    rcases h.off k e hk hd h0 with h3 | h3 | h3
    · exact .inl h3
    · exact .inr (.inl h3)
    · rcases (hc _).1 h3 with h4 | h4
      · have h5 := h.cand c ((hc c).2 (.inl rfl))
        have e1 : e.h = c.1 := congrArg Prod.fst h4
        have e2 : ev V e = c.2 := congrArg Prod.snd h4
        exact .inr (.inl ⟨by rw [e1]; exact hs, by rw [e1, e2]; exact leV_trans (h.low _ hs) h5.2.2⟩)
      · exact .inr (.inr h4)⟩
/-- the least candidate's node is settled -/
theorem KI.settle {S : Nat → Bool} {V : Nat → VV} {o : Nat → Nat} {ag ag' : List (Nat × VV)} {L : List Nat} {x : VV} {don : Nat → Prop} (h : KI es S V o ag L x don) (hes : ∀ e ∈ es, okE e)
    (hmis : ∀ (k : Nat) (e : EE), es[k]? = some e → don k → o k = 0 → mis S e.t = 0)
    {c : Nat × VV} (hc : ∀ d, d ∈ ag ↔ d = c ∨ d ∈ ag') (hs : S c.1 = false) (hmin : ∀ d ∈ ag', leV c.2 d.2) : KI es (upd S c.1 true) (upd V c.1 c.2) o ag' (L ++ [c.1]) c.2 don := by
  obtain ⟨⟨e0, he0, hh0, ht0, hv0⟩, hlt0, hx0⟩ := h.cand c ((hc c).2 (.inl rfl))
  have hn : c.1 ∉ L := fun hm => by rw [(h.mem _).2 hm] at hs; cases hs
  have hkeep : ∀ e : EE, (∀ t ∈ e.t, S t = true) → ev (upd V c.1 c.2) e = ev V e := fun e ht => ev_upd (fun hm => by rw [ht _ hm] at hs; cases hs)
  refine ⟨fun v => ?_, fun v hv => ?_, fun v => ?_, fun i v hi => ?_, fun d hd => ?_, fun v hv => ?_, fun k e hk hd h0 => ?_⟩
  · by_cases e : v = c.1
    · subst e; rw [upd_same, hv0]; exact ev_ok (hes e0 he0) h.ok
    · rw [upd_other _ _ _ _ e]; exact h.ok v
  · by_cases e : v = c.1
    · subst e; rw [upd_same] at hv; cases hv
    · rw [upd_other _ _ _ _ e] at hv ⊢; exact h.un v hv
  · by_cases e : v = c.1
    · subst e; simp [upd_same]
    · rw [upd_other _ _ _ _ e, h.mem v]; simp [e]
  · rw [List.getElem?_append] at hi
    split at hi
    · rename_i hlt
      obtain ⟨e, h1, h2, h3, h4⟩ := h.ord i v hi
      have hvn : v ≠ c.1 := fun e => hn (e ▸ List.mem_of_getElem? hi)
      refine ⟨e, h1, h2, fun t ht => ?_, ?_⟩
      · rw [List.take_append_of_le_length (by omega)]; exact h3 t ht
      · rw [upd_other _ _ _ _ hvn, hkeep e (fun t ht => (h.mem t).2 (List.mem_of_mem_take (h3 t ht)))]; exact h4
    · rename_i hlt
      have h1 : i - L.length = 0 := by
        have := (List.getElem?_eq_some_iff.1 hi).1
        simp at this; omega
      rw [h1] at hi
      simp only [List.getElem?_cons_zero, Option.some.injEq] at hi
      subst hi
      refine ⟨e0, he0, hh0, fun t ht => ?_, ?_⟩
      · have : i = L.length := by omega
        rw [this, List.take_append_of_le_length (Nat.le_refl _), List.take_length]
        exact (h.mem t).1 (ht0 t ht)
      · rw [upd_same, hkeep e0 ht0]; exact hv0
  · obtain ⟨⟨e, h1, h2, h3, h4⟩, h5, h6⟩ := h.cand d ((hc d).2 (.inr hd))
    refine ⟨⟨e, h1, h2, fun t ht => ?_, by rw [hkeep e h3]; exact h4⟩, h5, hmin d hd⟩
    by_cases e : t = c.1
    · subst e; exact upd_same _ _ _
    · rw [upd_other _ _ _ _ e]; exact h3 t ht
  · by_cases e : v = c.1
    · subst e; rw [upd_same]; exact leV_refl _
    · rw [upd_other _ _ _ _ e] at hv ⊢; exact leV_trans (h.low v hv) hx0
  · have ht := mis_zero.1 (hmis k e hk hd h0)
    rw [hkeep e ht]
    rcases h.off k e hk hd h0 with h3 | h3 | h3
    · exact .inl h3
    · refine .inr (.inl ?_)
      have hne : e.h ≠ c.1 := fun e2 => by rw [e2] at h3; rw [h3.1] at hs; cases hs
      rw [upd_other _ _ _ _ hne, upd_other _ _ _ _ hne]; exact h3
    · rcases (hc _).1 h3 with h4 | h4
      · have e1 : e.h = c.1 := congrArg Prod.fst h4
        have e2 : ev V e = c.2 := congrArg Prod.snd h4
        refine .inr (.inl ?_)
        rw [e1, e2, upd_same, upd_same]
        exact ⟨rfl, leV_refl _⟩
      · exact .inr (.inr h4)
/-- the agenda is empty: no hyperedge offers less -/
theorem KI.closed {S : Nat → Bool} {V : Nat → VV} {o : Nat → Nat} {L : List Nat} {x : VV} {don : Nat → Prop} (h : KI es S V o [] L x don) (hes : ∀ e ∈ es, okE e) (hmis : ∀ (k : Nat) (e : EE), es[k]? = some e → don k ∧ o k = mis S e.t) : Closed es V := by
  intro e he
  obtain ⟨k, hk⟩ := List.getElem?_of_mem he
  obtain ⟨hd, hm⟩ := hmis k e hk
  by_cases h0 : mis S e.t = 0
  · rcases h.off k e hk hd (by omega) with h3 | h3 | h3
    · rw [h3]; exact leV_top (h.ok _)
    · exact h3.2
    · simp at h3
  · have : ∃ t ∈ e.t, S t = false := by
      refine Classical.byContradiction (fun hno => h0 (mis_zero.2 (fun v hv => ?_)))
      cases hs : S v with
      | true => rfl
      | false => exact absurd ⟨v, hv, hs⟩ hno
    obtain ⟨t, ht, hs⟩ := this
    rw [ev_top (hes e he) h.ok ht (h.un t hs)]
    exact leV_top (h.ok _)
theorem KI.reached {S : Nat → Bool} {V : Nat → VV} {o : Nat → Nat} {ag : List (Nat × VV)} {L : List Nat} {x : VV} {don : Nat → Prop} (h : KI es S V o ag L x don) (v : Nat) : V v = top ∨ Reached es V v := by
  have key : ∀ (n i v : Nat), i < n → L[i]? = some v → Reached es V v := by
    intro n
    induction n with
    | zero => intro i v hi; omega
    | succ n ih =>
      intro i v hi hv
      obtain ⟨e, h1, h2, h3, h4⟩ := h.ord i v hv
      subst h2
      refine Reached.by e h1 (fun t ht => ?_) h4
      obtain ⟨j, hj⟩ := List.getElem?_of_mem (h3 t ht)
      have hlt := (List.getElem?_eq_some_iff.1 hj).1
      rw [List.getElem?_take] at hj
      simp only [List.length_take] at hlt
      split at hj
      · exact ih j t (by omega) hj
      · cases hj
  cases hs : S v with
  | false => exact .inl (h.un v hs)
  | true =>
    obtain ⟨i, hi⟩ := List.getElem?_of_mem ((h.mem v).1 hs)
    exact .inr (key (i + 1) i v (by omega) hi)
end
end Go.Proofs.PK
