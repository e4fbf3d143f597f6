/-
  Texts joined: Values of derivations as plain mathematics: their order, what a hyperedge makes of them, and why least values are unique; Knuth's algorithm as plain mathematics: what holds while nodes are settled, and what its end has found; Trees of derivations as plain mathematics: their validity, value and order; A binary heap as plain mathematics; Least values as plain mathematics: what the reference's iteration keeps, why it ends, what both solvers have found; the chosen hyperedges; Knuth's algorithm as plain mathematics: a node is settled, its uses are gone through; The uses noted, as plain mathematics; The derivation by the chosen hyperedges: its value, its validity, and that none is less.
-/
/-
  Values of derivations as plain mathematics: their order, what a hyperedge makes of them, and why least values are unique.
-/
namespace Go.Proofs.PK
def INF : Int := 1099511627776
structure VV where
  c : Int
  s : Int
deriving DecidableEq
def top : VV := ⟨INF, 0⟩
def ltV (a b : VV) : Bool := decide (a.c < b.c) || (decide (a.c = b.c) && decide (a.s < b.s))
def leV (a b : VV) : Prop := a.c < b.c ∨ (a.c = b.c ∧ a.s ≤ b.s)
/-- a value as it may occur -/
def okV (v : VV) : Prop := 0 ≤ v.c ∧ v.c ≤ INF ∧ 0 ≤ v.s ∧ v.s ≤ INF ∧ (v.c = INF → v.s = 0)
theorem okV_top : okV top := by unfold okV top INF; simp
theorem leV_refl (a : VV) : leV a a := .inr ⟨rfl, Int.le_refl _⟩
theorem leV_trans {a b c : VV} (h : leV a b) (k : leV b c) : leV a c := by
  unfold leV at *; omega
theorem leV_antisymm {a b : VV} (h : leV a b) (k : leV b a) : a = b := by
  cases a; cases b; unfold leV at *; simp only at *; congr 1 <;> omega
theorem leV_of_not_lt {a b : VV} (h : ltV b a = false) : leV a b := by
  unfold ltV at h; unfold leV
  simp only [Bool.or_eq_false_iff, Bool.and_eq_false_iff, decide_eq_false_iff_not] at h
  omega
theorem not_lt_of_leV {a b : VV} (h : leV a b) : ltV b a = false := by
  unfold leV at h; unfold ltV
  simp only [Bool.or_eq_false_iff, Bool.and_eq_false_iff, decide_eq_false_iff_not]
  omega
theorem leV_of_lt {a b : VV} (h : ltV a b = true) : leV a b := by
  unfold ltV at h; unfold leV
  simp only [Bool.or_eq_true, Bool.and_eq_true, decide_eq_true_eq] at h
  omega
theorem leV_total (a b : VV) : leV a b ∨ leV b a := by unfold leV; omega
theorem leV_top {a : VV} (h : okV a) : leV a top := by
  obtain ⟨h1, h2, h3, h4, h5⟩ := h
  unfold leV top INF at *
  simp only
  by_cases e : a.c = 1099511627776
  · exact .inr ⟨e, by rw [h5 e]; exact Int.le_refl _⟩
  · exact .inl (by omega)
/-- what a hyperedge makes of the values of its tails -/
def combG (p : Int × Int) (v : VV) : Int × Int := (min (p.1 + v.c) INF, min (p.2 + v.s) INF)
def comb (cost : Int) (l : List VV) : VV := if INF ≤ (l.foldl combG (cost, 1)).1 then top else ⟨(l.foldl combG (cost, 1)).1, (l.foldl combG (cost, 1)).2⟩
theorem fold_bd : ∀ (l : List VV) (p : Int × Int), (∀ v ∈ l, okV v) → 0 ≤ p.1 → p.1 ≤ INF → 1 ≤ p.2 → p.2 ≤ INF →
    p.1 ≤ (l.foldl combG p).1 ∧ (l.foldl combG p).1 ≤ INF ∧ p.2 ≤ (l.foldl combG p).2 ∧ (l.foldl combG p).2 ≤ INF
  | [], p, _, h1, h2, h3, h4 => ⟨Int.le_refl _, h2, Int.le_refl _, h4⟩
  | v :: l, p, hl, h1, h2, h3, h4 => by
    obtain ⟨k1, k2, k3, k4, _⟩ := hl v (by simp)
    have hi : (1 : Int) ≤ INF := by unfold INF; decide
    rw [List.foldl_cons]
    have := fold_bd l (combG p v) (fun x hx => hl x (by simp [hx])) (by unfold combG; simp only; omega) (by unfold combG; simp only; omega) (by unfold combG; simp only; omega) (by unfold combG; simp only; omega)
    have e1 : p.1 ≤ (combG p v).1 := by unfold combG; simp only; omega
    have e2 : p.2 ≤ (combG p v).2 := by unfold combG; simp only; omega
    omega
theorem comb_ok {cost : Int} {l : List VV} (hc : 0 ≤ cost ∧ cost ≤ INF) (hl : ∀ v ∈ l, okV v) : okV (comb cost l) := by
  have := fold_bd l (cost, 1) hl hc.1 hc.2 (by simp) (show (1 : Int) ≤ INF by unfold INF; decide)
  simp only at this
  unfold comb
  split
  · exact okV_top
  · exact ⟨by simp only; omega, by simp only; omega, by simp only; omega, by simp only; omega, fun h => by simp only at h; omega⟩
/-- combining is monotone -/
theorem fold_mono : ∀ (l k : List VV) (p q : Int × Int), (∀ v ∈ l, okV v) → (∀ v ∈ k, okV v) → l.length = k.length → (∀ (i : Nat) (a b : VV), l[i]? = some a → k[i]? = some b → leV a b) →
    (p.1 < q.1 ∨ (p.1 = q.1 ∧ p.2 ≤ q.2) ∨ INF ≤ q.1) → 0 ≤ p.1 → p.1 ≤ INF → 0 ≤ q.1 → q.1 ≤ INF →
    ((l.foldl combG p).1 < (k.foldl combG q).1 ∨ ((l.foldl combG p).1 = (k.foldl combG q).1 ∧ (l.foldl combG p).2 ≤ (k.foldl combG q).2) ∨ INF ≤ (k.foldl combG q).1)
  | [], [], p, q, _, _, _, _, h, _, _, _, _ => h
  | [], _ :: _, _, _, _, _, h, _, _, _, _, _, _ => by simp at h
  | _ :: _, [], _, _, _, _, h, _, _, _, _, _, _ => by simp at h
  | a :: l, b :: k, p, q, hl, hk, hlen, hle, h, hp0, hp, hq0, hq => by
    rw [List.foldl_cons, List.foldl_cons]
    obtain ⟨a1, a2, a3, a4, _⟩ := hl a (by simp)
    obtain ⟨b1, b2, b3, b4, _⟩ := hk b (by simp)
    have hab := hle 0 a b rfl rfl
    refine fold_mono l k _ _ (fun x hx => hl x (by simp [hx])) (fun x hx => hk x (by simp [hx])) (by simpa using hlen) (fun i x y hx hy => hle (i + 1) x y hx hy) ?_ (by unfold combG; simp only; omega) (by unfold combG; simp only; omega) (by unfold combG; simp only; omega) (by unfold combG; simp only; omega)
    unfold combG leV at *
    simp only
    omega
theorem comb_mono {cost : Int} {l k : List VV} (hc : 0 ≤ cost ∧ cost ≤ INF) (hl : ∀ v ∈ l, okV v) (hk : ∀ v ∈ k, okV v) (hlen : l.length = k.length) (hle : ∀ (i : Nat) (a b : VV), l[i]? = some a → k[i]? = some b → leV a b) :
    leV (comb cost l) (comb cost k) := by
  have hm := fold_mono l k (cost, 1) (cost, 1) hl hk hlen hle (.inr (.inl ⟨rfl, Int.le_refl _⟩)) hc.1 hc.2 hc.1 hc.2
  have b1 := fold_bd l (cost, 1) hl hc.1 hc.2 (by simp) (show (1 : Int) ≤ INF by unfold INF; decide)
  have b2 := fold_bd k (cost, 1) hk hc.1 hc.2 (by simp) (show (1 : Int) ≤ INF by unfold INF; decide)
  have hok := comb_ok hc hl
  by_cases e : INF ≤ (k.foldl combG (cost, 1)).1
  · have : comb cost k = top := by unfold comb; rw [if_pos e]
    rw [this]; exact leV_top hok
  · have e2 : ¬ INF ≤ (l.foldl combG (cost, 1)).1 := by omega
    unfold comb
    rw [if_neg e, if_neg e2]
    unfold leV
    simp only
    omega
/-- a hyperedge's value is no less than that of any of its tails -/
theorem fold_sup : ∀ (l : List VV) (p : Int × Int), (∀ v ∈ l, okV v) → 0 ≤ p.1 → p.1 ≤ INF → 1 ≤ p.2 → p.2 ≤ INF → ∀ v ∈ l, v.c ≤ (l.foldl combG p).1 ∧ v.s ≤ (l.foldl combG p).2
  | [], _, _, _, _, _, _, v, h => by simp at h
  | x :: l, p, hl, h1, h2, h3, h4, v, h => by
    rw [List.foldl_cons]
    obtain ⟨k1, k2, k3, k4, _⟩ := hl x (by simp)
    have hi : (1 : Int) ≤ INF := by unfold INF; decide
    have hb1 : 0 ≤ (combG p x).1 := by unfold combG; simp only; omega
    have hb2 : (combG p x).1 ≤ INF := by unfold combG; simp only; omega
    have hb3 : 1 ≤ (combG p x).2 := by unfold combG; simp only; omega
    have hb4 : (combG p x).2 ≤ INF := by unfold combG; simp only; omega
    rcases List.mem_cons.1 h with rfl | h
    · have := fold_bd l (combG p v) (fun y hy => hl y (by simp [hy])) hb1 hb2 hb3 hb4
      have e1 : v.c ≤ (combG p v).1 := by unfold combG; simp only; omega
      have e2 : v.s ≤ (combG p v).2 := by unfold combG; simp only; omega
      omega
    · exact fold_sup l _ (fun y hy => hl y (by simp [hy])) hb1 hb2 hb3 hb4 v h
theorem comb_sup {cost : Int} {l : List VV} (hc : 0 ≤ cost ∧ cost ≤ INF) (hl : ∀ v ∈ l, okV v) {v : VV} (hv : v ∈ l) : leV v (comb cost l) := by
  have hs := fold_sup l (cost, 1) hl hc.1 hc.2 (by simp) (show (1 : Int) ≤ INF by unfold INF; decide) v hv
  unfold comb
  split
  · exact leV_top (hl v hv)
  · unfold leV; simp only; omega
theorem comb_top {cost : Int} {l : List VV} (hc : 0 ≤ cost ∧ cost ≤ INF) (hl : ∀ v ∈ l, okV v) (h : top ∈ l) : comb cost l = top := by
  have hs := fold_sup l (cost, 1) hl hc.1 hc.2 (by simp) (show (1 : Int) ≤ INF by unfold INF; decide) top h
  unfold comb
  rw [if_pos (by unfold top at hs; exact hs.1)]
/-! ### least values -/
section
/-- a hyperedge: head, tails, cost -/
structure EE where
  h : Nat
  t : List Nat
  c : Int
variable (es : List EE)
def ev (V : Nat → VV) (e : EE) : VV := comb e.c (e.t.map V)
def okE (e : EE) : Prop := 0 ≤ e.c ∧ e.c ≤ INF
/-- no hyperedge offers less -/
def Closed (V : Nat → VV) : Prop := ∀ e ∈ es, leV (V e.h) (ev V e)
theorem ev_mono {V K : Nat → VV} {e : EE} (he : okE e) (hV : ∀ v, okV (V v)) (hK : ∀ v, okV (K v)) (h : ∀ t ∈ e.t, leV (V t) (K t)) : leV (ev V e) (ev K e) := by
  refine comb_mono he ?_ ?_ (by simp) ?_
  · intro v hv; obtain ⟨t, _, rfl⟩ := List.mem_map.1 hv; exact hV t
  · intro v hv; obtain ⟨t, _, rfl⟩ := List.mem_map.1 hv; exact hK t
  · intro i a b ha hb
    rw [List.getElem?_map] at ha hb
    obtain ⟨t, ht, rfl⟩ := Option.map_eq_some_iff.1 ha
    rw [ht] at hb
    obtain rfl := Option.some.inj hb
    exact h t (List.mem_of_getElem? ht)
/-- reached: a node's value, by a hyperedge whose tails were reached before -/
inductive Reached (K : Nat → VV) : Nat → Prop
  | by (e : EE) (he : e ∈ es) (ht : ∀ t ∈ e.t, Reached K t) (hv : K e.h = ev K e) : Reached K e.h
theorem closed_le {V K : Nat → VV} (hes : ∀ e ∈ es, okE e) (hV : ∀ v, okV (V v)) (hK : ∀ v, okV (K v)) (hc : Closed es V) (hr : ∀ v, K v = top ∨ Reached es K v) (v : Nat) : leV (V v) (K v) := by
  rcases hr v with h | h
  · rw [h]; exact leV_top (hV v)
  · induction h with
    | «by» e he ht hv ih =>
      rw [hv]
      exact leV_trans (hc e he) (ev_mono (hes e he) hV hK ih)
/-- least values are unique -/
theorem least_unique {V K : Nat → VV} (hes : ∀ e ∈ es, okE e) (hV : ∀ v, okV (V v)) (hK : ∀ v, okV (K v)) (hc : Closed es V) (hr : ∀ v, K v = top ∨ Reached es K v) (hge : ∀ W : Nat → VV, (∀ v, okV (W v)) → Closed es W → ∀ v, leV (W v) (V v)) (hck : Closed es K) : V = K := by
  funext v
  exact leV_antisymm (closed_le es hes hV hK hc hr v) (hge K hK hck v)
/-- one more offer is taken: above every closed function still -/
theorem above_step {V W : Nat → VV} (hes : ∀ e ∈ es, okE e) (hV : ∀ v, okV (V v)) (hW : ∀ v, okV (W v)) (hc : Closed es W) (h : ∀ v, leV (W v) (V v)) {e : EE} (he : e ∈ es) (v : Nat) : leV (W v) (if v = e.h then ev V e else V v) := by
  split
  · rename_i e1; subst e1
    exact leV_trans (hc e he) (ev_mono (hes e he) hW hV (fun t _ => h t))
  · exact h v
end
end Go.Proofs.PK
/-
  Knuth's algorithm as plain mathematics: what holds while nodes are settled, and what its end has found.
-/
namespace Go.Proofs.PK
def upd {α : Type} (f : Nat → α) (i : Nat) (x : α) : Nat → α := fun j => if j = i then x else f j
theorem upd_same {α : Type} (f : Nat → α) (i : Nat) (x : α) : upd f i x i = x := if_pos rfl
theorem upd_other {α : Type} (f : Nat → α) (i j : Nat) (x : α) (h : j ≠ i) : upd f i x j = f j := if_neg h
/-- how many of a hyperedge's tails are not settled -/
def mis (S : Nat → Bool) (t : List Nat) : Nat := t.countP (fun v => !(S v))
theorem mis_zero {S : Nat → Bool} {t : List Nat} : mis S t = 0 ↔ ∀ v ∈ t, S v = true := by
  unfold mis; rw [List.countP_eq_zero]; simp
theorem mis_upd (S : Nat → Bool) (u : Nat) (hu : S u = false) : ∀ t : List Nat, mis S t = mis (upd S u true) t + t.count u
  | [] => rfl
  | v :: t => by
    have ih := mis_upd S u hu t
    unfold mis at *
    simp only [List.countP_cons, List.count_cons]
    by_cases e : v = u
    · subst e; simp [hu, upd_same]; omega
    · rw [upd_other _ _ _ _ e]
      have : (v == u) = false := by simp [e]
      rw [this]
      simp
      omega
theorem ev_upd {V : Nat → VV} {n : Nat} {y : VV} {e : EE} (h : n ∉ e.t) : ev (upd V n y) e = ev V e := by
  unfold ev
  congr 1
  refine List.map_congr_left (fun t ht => upd_other _ _ _ _ (fun e => h (e ▸ ht)))
section
variable (es : List EE)
/-- settled in an order: each by a hyperedge whose tails came before -/
def Ordered (V : Nat → VV) (L : List Nat) : Prop := ∀ (i v : Nat), L[i]? = some v → ∃ e ∈ es, e.h = v ∧ (∀ t ∈ e.t, t ∈ L.take i) ∧ V v = ev V e
/-- the state: settled, values, how many tails are open, the agenda; x: no candidate is less -/
structure KI (S : Nat → Bool) (V : Nat → VV) (o : Nat → Nat) (ag : List (Nat × VV)) (L : List Nat) (x : VV) (don : Nat → Prop) : Prop where
  ok : ∀ v, okV (V v)
  un : ∀ v, S v = false → V v = top
  mem : ∀ v, S v = true ↔ v ∈ L
  ord : Ordered es V L
  cand : ∀ c ∈ ag, (∃ e ∈ es, e.h = c.1 ∧ (∀ t ∈ e.t, S t = true) ∧ c.2 = ev V e) ∧ c.2.c < INF ∧ leV x c.2
  low : ∀ v, S v = true → leV (V v) x
  off : ∀ (k : Nat) (e : EE), es[k]? = some e → don k → o k = 0 → ev V e = top ∨ (S e.h = true ∧ leV (V e.h) (ev V e)) ∨ (e.h, ev V e) ∈ ag
variable {es}
theorem KI.start (_hes : ∀ e ∈ es, okE e) (o : Nat → Nat) (don : Nat → Prop) (hd : ∀ k, ¬ don k) : KI es (fun _ => false) (fun _ => top) o [] [] ⟨0, 0⟩ don :=
  ⟨fun _ => okV_top, fun _ _ => rfl, fun _ => by simp, fun i v h => by simp at h, fun c h => by simp at h, fun v h => by simp at h, fun k e _ h => absurd h (hd k)⟩
/-- the value that a hyperedge offers -/
theorem ev_ok {V : Nat → VV} {e : EE} (he : okE e) (hV : ∀ v, okV (V v)) : okV (ev V e) := comb_ok he (fun v hv => by obtain ⟨t, _, rfl⟩ := List.mem_map.1 hv; exact hV t)
theorem ev_top {V : Nat → VV} {e : EE} (he : okE e) (hV : ∀ v, okV (V v)) {t : Nat} (ht : t ∈ e.t) (h : V t = top) : ev V e = top := comb_top he (fun v hv => by obtain ⟨t, _, rfl⟩ := List.mem_map.1 hv; exact hV t) (List.mem_map.2 ⟨t, ht, h⟩)
theorem ev_sup {V : Nat → VV} {e : EE} (he : okE e) (hV : ∀ v, okV (V v)) {t : Nat} (ht : t ∈ e.t) : leV (V t) (ev V e) := comb_sup he (fun v hv => by obtain ⟨t, _, rfl⟩ := List.mem_map.1 hv; exact hV t) (List.mem_map.2 ⟨t, ht, rfl⟩)
theorem not_top {v : VV} (_h : okV v) (h2 : v.c < INF) : v ≠ top := fun e => by rw [e] at h2; unfold top at h2; simp at h2
theorem top_of {v : VV} (h : okV v) (h2 : ¬ v.c < INF) : v = top := by
  obtain ⟨h1, h3, h4, h5, h6⟩ := h
  have : v.c = INF := by omega
  cases v
  simp only at *
  unfold top
  rw [this, h6 this]
/-- a hyperedge is offered (or need not be): the agenda grows or stays -/
theorem KI.offer {S : Nat → Bool} {V : Nat → VV} {o : Nat → Nat} {ag : List (Nat × VV)} {L : List Nat} {x : VV} {don : Nat → Prop} (h : KI es S V o ag L x don) (hes : ∀ e ∈ es, okE e)
    {k : Nat} {e : EE} (he : es[k]? = some e) (ht : ∀ t ∈ e.t, S t = true) (hx : leV x (ev V e)) (o' : Nat → Nat) (don' : Nat → Prop) (ho : ∀ i, i ≠ k → don' i → don i ∧ (o' i = 0 → o i = 0)) (ag' : List (Nat × VV))
    (hag : ag' = if (ev V e).c < INF ∧ S e.h = false then ag ++ [(e.h, ev V e)] else ag) : KI es S V o' ag' L x don' := by
  have hem := List.mem_of_getElem? he
  have hsub : ∀ c ∈ ag, c ∈ ag' := fun c hc => by rw [hag]; split <;> simp [hc]
  refine ⟨h.ok, h.un, h.mem, h.ord, ?_, h.low, ?_⟩
  · intro c hc
    rw [hag] at hc
    split at hc
    · rename_i hh
      rcases List.mem_append.1 hc with hc | hc
      · exact h.cand c hc
      · simp only [List.mem_singleton] at hc
        subst hc
        exact ⟨⟨e, hem, rfl, ht, rfl⟩, hh.1, hx⟩
    · exact h.cand c hc
  · intro i e2 hi hd h0
    by_cases hik : i = k
    · subst hik
      rw [he] at hi
      obtain rfl := Option.some.inj hi
      by_cases h1 : (ev V e).c < INF
      · cases h2 : S e.h with
        | false => exact .inr (.inr (by rw [hag, if_pos ⟨h1, h2⟩]; simp))
        | true => exact .inr (.inl ⟨rfl, leV_trans (h.low _ h2) hx⟩)
      · exact .inl (top_of (ev_ok (hes e hem) h.ok) h1)
    · obtain ⟨d1, d2⟩ := ho i hik hd
      rcases h.off i e2 hi d1 (d2 h0) with h3 | h3 | h3
      · exact .inl h3
      · exact .inr (.inl h3)
      · exact .inr (.inr (hsub _ h3))
/-- the counts go on: what is not done yet need not be offered -/
theorem KI.again {S : Nat → Bool} {V : Nat → VV} {o : Nat → Nat} {ag : List (Nat × VV)} {L : List Nat} {x : VV} {don : Nat → Prop} (h : KI es S V o ag L x don) (o' : Nat → Nat) (don' : Nat → Prop) (ho : ∀ i, don' i → o' i = 0 → don i ∧ o i = 0) : KI es S V o' ag L x don' :=
  ⟨h.ok, h.un, h.mem, h.ord, h.cand, h.low, fun k e hk hd h0 => h.off k e hk (ho k hd h0).1 (ho k hd h0).2⟩
/-- the agenda in another order -/
theorem KI.perm {S : Nat → Bool} {V : Nat → VV} {o : Nat → Nat} {ag ag' : List (Nat × VV)} {L : List Nat} {x : VV} {don : Nat → Prop} (h : KI es S V o ag L x don) (hp : ∀ c, c ∈ ag' ↔ c ∈ ag) : KI es S V o ag' L x don :=
  ⟨h.ok, h.un, h.mem, h.ord, fun c hc => h.cand c ((hp c).1 hc), h.low, fun k e hk hd h0 => by
    rcases h.off k e hk hd h0 with h3 | h3 | h3
    · exact .inl h3
    · exact .inr (.inl h3)
    · exact .inr (.inr ((hp _).2 h3))⟩
/-- a candidate of a settled node is dropped -/
theorem KI.drop {S : Nat → Bool} {V : Nat → VV} {o : Nat → Nat} {ag ag' : List (Nat × VV)} {L : List Nat} {x : VV} {don : Nat → Prop} (h : KI es S V o ag L x don) {c : Nat × VV} (hc : ∀ d, d ∈ ag ↔ d = c ∨ d ∈ ag') (hs : S c.1 = true) : KI es S V o ag' L x don :=
  ⟨h.ok, h.un, h.mem, h.ord, fun d hd => h.cand d ((hc d).2 (.inr hd)), h.low, fun k e hk hd h0 => by
    rcases h.off k e hk hd h0 with h3 | h3 | h3
    · exact .inl h3
    · exact .inr (.inl h3)
    · rcases (hc _).1 h3 with h4 | h4
      · have h5 := h.cand c ((hc c).2 (.inl rfl))
        have e1 : e.h = c.1 := congrArg Prod.fst h4
        have e2 : ev V e = c.2 := congrArg Prod.snd h4
        exact .inr (.inl ⟨by rw [e1]; exact hs, by rw [e1, e2]; exact leV_trans (h.low _ hs) h5.2.2⟩)
      · exact .inr (.inr h4)⟩
/-- the least candidate's node is settled -/
theorem KI.settle {S : Nat → Bool} {V : Nat → VV} {o : Nat → Nat} {ag ag' : List (Nat × VV)} {L : List Nat} {x : VV} {don : Nat → Prop} (h : KI es S V o ag L x don) (hes : ∀ e ∈ es, okE e)
    (hmis : ∀ (k : Nat) (e : EE), es[k]? = some e → don k → o k = 0 → mis S e.t = 0)
    {c : Nat × VV} (hc : ∀ d, d ∈ ag ↔ d = c ∨ d ∈ ag') (hs : S c.1 = false) (hmin : ∀ d ∈ ag', leV c.2 d.2) : KI es (upd S c.1 true) (upd V c.1 c.2) o ag' (L ++ [c.1]) c.2 don := by
  obtain ⟨⟨e0, he0, hh0, ht0, hv0⟩, hlt0, hx0⟩ := h.cand c ((hc c).2 (.inl rfl))
  have hn : c.1 ∉ L := fun hm => by rw [(h.mem _).2 hm] at hs; cases hs
  have hkeep : ∀ e : EE, (∀ t ∈ e.t, S t = true) → ev (upd V c.1 c.2) e = ev V e := fun e ht => ev_upd (fun hm => by rw [ht _ hm] at hs; cases hs)
  refine ⟨fun v => ?_, fun v hv => ?_, fun v => ?_, fun i v hi => ?_, fun d hd => ?_, fun v hv => ?_, fun k e hk hd h0 => ?_⟩
  · by_cases e : v = c.1
    · subst e; rw [upd_same, hv0]; exact ev_ok (hes e0 he0) h.ok
    · rw [upd_other _ _ _ _ e]; exact h.ok v
  · by_cases e : v = c.1
    · subst e; rw [upd_same] at hv; cases hv
    · rw [upd_other _ _ _ _ e] at hv ⊢; exact h.un v hv
  · by_cases e : v = c.1
    · subst e; simp [upd_same]
    · rw [upd_other _ _ _ _ e, h.mem v]; simp [e]
  · rw [List.getElem?_append] at hi
    split at hi
    · rename_i hlt
      obtain ⟨e, h1, h2, h3, h4⟩ := h.ord i v hi
      have hvn : v ≠ c.1 := fun e => hn (e ▸ List.mem_of_getElem? hi)
      refine ⟨e, h1, h2, fun t ht => ?_, ?_⟩
      · rw [List.take_append_of_le_length (by omega)]; exact h3 t ht
      · rw [upd_other _ _ _ _ hvn, hkeep e (fun t ht => (h.mem t).2 (List.mem_of_mem_take (h3 t ht)))]; exact h4
    · rename_i hlt
      have h1 : i - L.length = 0 := by
        have := (List.getElem?_eq_some_iff.1 hi).1
        simp at this; omega
      rw [h1] at hi
      simp only [List.getElem?_cons_zero, Option.some.injEq] at hi
      subst hi
      refine ⟨e0, he0, hh0, fun t ht => ?_, ?_⟩
      · have : i = L.length := by omega
        rw [this, List.take_append_of_le_length (Nat.le_refl _), List.take_length]
        exact (h.mem t).1 (ht0 t ht)
      · rw [upd_same, hkeep e0 ht0]; exact hv0
  · obtain ⟨⟨e, h1, h2, h3, h4⟩, h5, h6⟩ := h.cand d ((hc d).2 (.inr hd))
    refine ⟨⟨e, h1, h2, fun t ht => ?_, by rw [hkeep e h3]; exact h4⟩, h5, hmin d hd⟩
    by_cases e : t = c.1
    · subst e; exact upd_same _ _ _
    · rw [upd_other _ _ _ _ e]; exact h3 t ht
  · by_cases e : v = c.1
    · subst e; rw [upd_same]; exact leV_refl _
    · rw [upd_other _ _ _ _ e] at hv ⊢; exact leV_trans (h.low v hv) hx0
  · have ht := mis_zero.1 (hmis k e hk hd h0)
    rw [hkeep e ht]
    rcases h.off k e hk hd h0 with h3 | h3 | h3
    · exact .inl h3
    · refine .inr (.inl ?_)
      have hne : e.h ≠ c.1 := fun e2 => by rw [e2] at h3; rw [h3.1] at hs; cases hs
      rw [upd_other _ _ _ _ hne, upd_other _ _ _ _ hne]; exact h3
    · rcases (hc _).1 h3 with h4 | h4
      · have e1 : e.h = c.1 := congrArg Prod.fst h4
        have e2 : ev V e = c.2 := congrArg Prod.snd h4
        refine .inr (.inl ?_)
        rw [e1, e2, upd_same, upd_same]
        exact ⟨rfl, leV_refl _⟩
      · exact .inr (.inr h4)
/-- the agenda is empty: no hyperedge offers less -/
theorem KI.closed {S : Nat → Bool} {V : Nat → VV} {o : Nat → Nat} {L : List Nat} {x : VV} {don : Nat → Prop} (h : KI es S V o [] L x don) (hes : ∀ e ∈ es, okE e) (hmis : ∀ (k : Nat) (e : EE), es[k]? = some e → don k ∧ o k = mis S e.t) : Closed es V := by
  intro e he
  obtain ⟨k, hk⟩ := List.getElem?_of_mem he
  obtain ⟨hd, hm⟩ := hmis k e hk
  by_cases h0 : mis S e.t = 0
  · rcases h.off k e hk hd (by omega) with h3 | h3 | h3
    · rw [h3]; exact leV_top (h.ok _)
    · exact h3.2
    · simp at h3
  · have : ∃ t ∈ e.t, S t = false := by
      refine Classical.byContradiction (fun hno => h0 (mis_zero.2 (fun v hv => ?_)))
      cases hs : S v with
      | true => rfl
      | false => exact absurd ⟨v, hv, hs⟩ hno
    obtain ⟨t, ht, hs⟩ := this
    rw [ev_top (hes e he) h.ok ht (h.un t hs)]
    exact leV_top (h.ok _)
theorem KI.reached {S : Nat → Bool} {V : Nat → VV} {o : Nat → Nat} {ag : List (Nat × VV)} {L : List Nat} {x : VV} {don : Nat → Prop} (h : KI es S V o ag L x don) (v : Nat) : V v = top ∨ Reached es V v := by
  have key : ∀ (n i v : Nat), i < n → L[i]? = some v → Reached es V v := by
    intro n
    induction n with
    | zero => intro i v hi; omega
    | succ n ih =>
      intro i v hi hv
      obtain ⟨e, h1, h2, h3, h4⟩ := h.ord i v hv
      subst h2
      refine Reached.by e h1 (fun t ht => ?_) h4
      obtain ⟨j, hj⟩ := List.getElem?_of_mem (h3 t ht)
      have hlt := (List.getElem?_eq_some_iff.1 hj).1
      rw [List.getElem?_take] at hj
      simp only [List.length_take] at hlt
      split at hj
      · exact ih j t (by omega) hj
      · cases hj
  cases hs : S v with
  | false => exact .inl (h.un v hs)
  | true =>
    obtain ⟨i, hi⟩ := List.getElem?_of_mem ((h.mem v).1 hs)
    exact .inr (key (i + 1) i v (by omega) hi)
end
end Go.Proofs.PK
/-
  Trees of derivations as plain mathematics: their validity, value and order.
-/
namespace Go.Proofs.PK
inductive DT where
  | node (e : Int) (k : List DT)
def DT.e : DT → Int
  | .node e _ => e
def DT.k : DT → List DT
  | .node _ k => k
theorem DT.ind {P : DT → Prop} (h : ∀ e k, (∀ d ∈ k, P d) → P (.node e k)) : ∀ d, P d
  | .node e k => h e k (fun d _hd => DT.ind h d)
termination_by d => sizeOf d
decreasing_by
  have := List.sizeOf_lt_of_mem _hd
  simp
  omega
section
variable (es : List EE)
def edge (i : Int) : Option EE := if 0 ≤ i then es[i.toNat]? else none
mutual
def validD : DT → Int → Bool
  | .node e k, r => match edge es e with
    | none => false
    | some E => decide ((E.h : Int) = r) && decide (E.t.length = k.length) && validL k E.t
def validL : List DT → List Nat → Bool
  | [], _ => true
  | _ :: _, [] => false
  | d :: k, t :: ts => validD d (t : Int) && validL k ts
end
mutual
def val : DT → VV
  | .node e k => match edge es e with
    | none => top
    | some E => comb E.c (valL k)
def valL : List DT → List VV
  | [] => []
  | d :: k => val d :: valL k
end
theorem valL_map : ∀ k, valL es k = k.map (val es)
  | [] => by rw [valL]; rfl
  | d :: k => by rw [valL, valL_map k]; rfl
theorem validL_iff : ∀ (k : List DT) (ts : List Nat), k.length = ts.length → (validL es k ts = true ↔ ∀ (i : Nat) d t, k[i]? = some d → ts[i]? = some t → validD es d (t : Int) = true)
  | [], ts, _ => by rw [validL]; simp
  | d :: k, [], h => by simp at h
  | d :: k, t :: ts, h => by
    rw [validL, Bool.and_eq_true, validL_iff k ts (by simpa using h)]
    constructor
    · rintro ⟨h1, h2⟩ i x y hx hy
      cases i with
      | zero => simp at hx hy; subst hx hy; exact h1
      | succ i => exact h2 i x y (by simpa using hx) (by simpa using hy)
    · intro h3
      exact ⟨h3 0 d t rfl rfl, fun i x y hx hy => h3 (i + 1) x y (by simpa using hx) (by simpa using hy)⟩
/-- a valid tree, opened -/
theorem validD_iff (e : Int) (k : List DT) (r : Int) : validD es (.node e k) r = true ↔ ∃ E, edge es e = some E ∧ (E.h : Int) = r ∧ E.t.length = k.length ∧ ∀ (i : Nat) d t, k[i]? = some d → E.t[i]? = some t → validD es d (t : Int) = true := by
  rw [validD]
  cases h : edge es e with
  | none => simp
  | some E =>
    simp only [Bool.and_eq_true, decide_eq_true_eq, Option.some.injEq]
    constructor
    · rintro ⟨⟨h1, h2⟩, h3⟩
      exact ⟨E, rfl, h1, h2, (validL_iff es k E.t h2.symm).1 h3⟩
    · rintro ⟨E', rfl, h1, h2, h3⟩
      exact ⟨⟨h1, h2⟩, (validL_iff es k _ h2.symm).2 h3⟩
/-! ### the order -/
def cmpV (a b : VV) : Int := if ltV a b = true then -1 else if ltV b a = true then 1 else 0
def cmpI (a b : Int) : Int := if a < b then -1 else if b < a then 1 else 0
mutual
def cmpD : DT → DT → Int
  | .node e k, .node f l => if cmpV (val es (.node e k)) (val es (.node f l)) ≠ 0 then cmpV (val es (.node e k)) (val es (.node f l)) else if cmpI e f ≠ 0 then cmpI e f else cmpL k l
def cmpL : List DT → List DT → Int
  | [], [] => 0
  | [], _ :: _ => -1
  | _ :: _, [] => 1
  | d :: k, f :: l => if cmpD d f ≠ 0 then cmpD d f else cmpL k l
end
theorem cmpV_anti (a b : VV) : cmpV b a = - cmpV a b := by
  unfold cmpV
  by_cases h1 : ltV a b = true
  · have h2 : ltV b a = false := not_lt_of_leV (leV_of_lt h1)
    simp [h1, h2]
  · by_cases h2 : ltV b a = true
    · simp [h1, h2]
    · simp [h1, h2]
theorem cmpV_zero {a b : VV} : cmpV a b = 0 ↔ a = b := by
  unfold cmpV
  constructor
  · intro h
    by_cases h1 : ltV a b = true
    · simp [h1] at h
    · by_cases h2 : ltV b a = true
      · simp [h1, h2] at h
      · exact leV_antisymm (leV_of_not_lt (by simpa using h2)) (leV_of_not_lt (by simpa using h1))
  · rintro rfl
    have : ltV a a = false := not_lt_of_leV (leV_refl a)
    simp [this]
theorem cmpV_le {a b : VV} : cmpV a b ≤ 0 ↔ leV a b := by
  unfold cmpV
  constructor
  · intro h
    by_cases h1 : ltV a b = true
    · exact leV_of_lt h1
    · by_cases h2 : ltV b a = true
      · simp [h1, h2] at h
      · exact leV_of_not_lt (by simpa using h2)
  · intro h
    have h2 : ltV b a = false := not_lt_of_leV h
    by_cases h1 : ltV a b = true <;> simp [h1, h2]
theorem cmpI_anti (a b : Int) : cmpI b a = - cmpI a b := by unfold cmpI; split <;> split <;> omega
theorem cmpI_zero {a b : Int} : cmpI a b = 0 ↔ a = b := by unfold cmpI; split <;> (try split) <;> omega
theorem cmpI_le {a b : Int} : cmpI a b ≤ 0 ↔ a ≤ b := by unfold cmpI; split <;> (try split) <;> omega
theorem cmpV_bd (a b : VV) : -1 ≤ cmpV a b ∧ cmpV a b ≤ 1 := by unfold cmpV; split <;> (try split) <;> omega
theorem cmpI_bd (a b : Int) : -1 ≤ cmpI a b ∧ cmpI a b ≤ 1 := by unfold cmpI; split <;> (try split) <;> omega
theorem cmpL_bd : ∀ (k : List DT), (∀ d ∈ k, ∀ f, -1 ≤ cmpD es d f ∧ cmpD es d f ≤ 1) → ∀ l, -1 ≤ cmpL es k l ∧ cmpL es k l ≤ 1
  | [], _, [] => by rw [cmpL]; omega
  | [], _, _ :: _ => by rw [cmpL]; omega
  | _ :: _, _, [] => by rw [cmpL]; omega
  | d :: k, h, f :: l => by
    rw [cmpL]
    split
    · exact h d (by simp) f
    · exact cmpL_bd k (fun x hx => h x (by simp [hx])) l
theorem cmpD_bd (a : DT) : ∀ b, -1 ≤ cmpD es a b ∧ cmpD es a b ≤ 1 := by
  induction a using DT.ind with
  | h e k ih =>
    rintro ⟨f, l⟩
    rw [cmpD]
    split
    · exact cmpV_bd _ _
    · split
      · exact cmpI_bd _ _
      · exact cmpL_bd es k ih l
theorem cmpL_anti : ∀ (k : List DT), (∀ d ∈ k, ∀ f, cmpD es f d = - cmpD es d f) → ∀ l, cmpL es l k = - cmpL es k l
  | [], _, [] => by simp [cmpL]
  | [], _, _ :: _ => by simp [cmpL]
  | _ :: _, _, [] => by simp [cmpL]
  | d :: k, h, f :: l => by
    rw [cmpL, cmpL, h d (by simp) f, cmpL_anti k (fun x hx => h x (by simp [hx])) l]
    by_cases e : cmpD es d f = 0
    · simp [e]
    · rw [if_pos (by omega), if_pos e]
theorem cmpD_anti (a : DT) : ∀ b, cmpD es b a = - cmpD es a b := by
  induction a using DT.ind with
  | h e k ih =>
    rintro ⟨f, l⟩
    rw [cmpD, cmpD, cmpV_anti, cmpI_anti, cmpL_anti es k ih l]
    by_cases e1 : cmpV (val es (.node e k)) (val es (.node f l)) = 0
    · by_cases e2 : cmpI e f = 0
      · simp [e1, e2]
      · rw [if_neg (by omega), if_pos (by omega), if_neg (by omega), if_pos e2]
    · rw [if_pos (by omega), if_pos e1]
theorem cmpL_zero : ∀ (k : List DT), (∀ d ∈ k, ∀ f, cmpD es d f = 0 → d = f) → ∀ l, cmpL es k l = 0 → k = l
  | [], _, [], _ => rfl
  | [], _, _ :: _, h => by simp [cmpL] at h
  | _ :: _, _, [], h => by simp [cmpL] at h
  | d :: k, h, f :: l, h0 => by
    rw [cmpL] at h0
    by_cases e : cmpD es d f = 0
    · rw [if_neg (by omega)] at h0
      rw [h d (by simp) f e, cmpL_zero k (fun x hx => h x (by simp [hx])) l h0]
    · rw [if_pos e] at h0; exact absurd h0 e
theorem cmpD_zero (a : DT) : ∀ b, cmpD es a b = 0 → a = b := by
  induction a using DT.ind with
  | h e k ih =>
    rintro ⟨f, l⟩ h0
    rw [cmpD] at h0
    by_cases e1 : cmpV (val es (.node e k)) (val es (.node f l)) = 0
    · rw [if_neg (by omega)] at h0
      by_cases e2 : cmpI e f = 0
      · rw [if_neg (by omega)] at h0
        rw [cmpI_zero.1 e2, cmpL_zero es k ih l h0]
      · rw [if_pos e2] at h0; exact absurd h0 e2
    · rw [if_pos e1] at h0; exact absurd h0 e1
theorem cmpL_refl : ∀ (k : List DT), (∀ d ∈ k, cmpD es d d = 0) → cmpL es k k = 0
  | [], _ => by rw [cmpL]
  | d :: k, h => by
    rw [cmpL, if_neg (by rw [h d (by simp)]; simp)]
    exact cmpL_refl k (fun x hx => h x (by simp [hx]))
theorem cmpD_refl (a : DT) : cmpD es a a = 0 := by
  induction a using DT.ind with
  | h e k ih =>
    rw [cmpD, if_neg (by rw [cmpV_zero.2 rfl]; simp), if_neg (by rw [cmpI_zero.2 rfl]; simp)]
    exact cmpL_refl es k ih
theorem cmpL_tr : ∀ (k : List DT), (∀ d ∈ k, ∀ f g, cmpD es d f ≤ 0 → cmpD es f g ≤ 0 → cmpD es d g ≤ 0) → ∀ l m, cmpL es k l ≤ 0 → cmpL es l m ≤ 0 → cmpL es k m ≤ 0
  | [], _, _, [], _, _ => by simp [cmpL]
  | [], _, _, _ :: _, _, _ => by simp [cmpL]
  | _ :: _, _, [], _, h, _ => by simp [cmpL] at h
  | _ :: _, _, _ :: _, [], _, h => by simp [cmpL] at h
  | d :: k, h, f :: l, g :: m, h1, h2 => by
    rw [cmpL] at h1 h2 ⊢
    by_cases e1 : cmpD es d f = 0
    · obtain rfl := cmpD_zero es d f e1
      rw [if_neg (by omega)] at h1
      by_cases e2 : cmpD es d g = 0
      · rw [if_neg (by omega)] at h2 ⊢
        exact cmpL_tr k (fun x hx => h x (by simp [hx])) l m h1 h2
      · rw [if_pos e2] at h2 ⊢; exact h2
    · rw [if_pos e1] at h1
      by_cases e2 : cmpD es f g = 0
      · obtain rfl := cmpD_zero es f g e2
        rw [if_pos e1]; exact h1
      · rw [if_pos e2] at h2
        have h3 := h d (by simp) f g h1 h2
        by_cases e3 : cmpD es d g = 0
        · exfalso
          obtain rfl := cmpD_zero es d g e3
          have := cmpD_anti es d f
          omega
        · rw [if_pos e3]; exact h3
theorem cmpD_tr (a : DT) : ∀ b c, cmpD es a b ≤ 0 → cmpD es b c ≤ 0 → cmpD es a c ≤ 0 := by
  induction a using DT.ind with
  | h e k ih =>
    rintro ⟨f, l⟩ ⟨g, m⟩ h1 h2
    rw [cmpD] at h1 h2 ⊢
    have hv1 : leV (val es (.node e k)) (val es (.node f l)) := by
      by_cases e1 : cmpV (val es (.node e k)) (val es (.node f l)) = 0
      · exact cmpV_le.1 (by omega)
      · rw [if_pos e1] at h1; exact cmpV_le.1 h1
    have hv2 : leV (val es (.node f l)) (val es (.node g m)) := by
      by_cases e1 : cmpV (val es (.node f l)) (val es (.node g m)) = 0
      · exact cmpV_le.1 (by omega)
      · rw [if_pos e1] at h2; exact cmpV_le.1 h2
    by_cases e3 : cmpV (val es (.node e k)) (val es (.node g m)) = 0
    · have e4 := cmpV_zero.1 e3
      have e5 : val es (.node e k) = val es (.node f l) := leV_antisymm hv1 (e4 ▸ hv2)
      rw [if_neg (by rw [cmpV_zero.2 e5]; simp)] at h1
      rw [if_neg (by rw [cmpV_zero.2 (e5.symm.trans e4)]; simp)] at h2
      rw [if_neg (by omega)]
      have he1 : e ≤ f := by
        by_cases e1 : cmpI e f = 0
        · exact cmpI_le.1 (by omega)
        · rw [if_pos e1] at h1; exact cmpI_le.1 h1
      have he2 : f ≤ g := by
        by_cases e1 : cmpI f g = 0
        · exact cmpI_le.1 (by omega)
        · rw [if_pos e1] at h2; exact cmpI_le.1 h2
      by_cases e6 : cmpI e g = 0
      · have e7 := cmpI_zero.1 e6
        rw [if_neg (by rw [cmpI_zero.2 (show e = f by omega)]; simp)] at h1
        rw [if_neg (by rw [cmpI_zero.2 (show f = g by omega)]; simp)] at h2
        rw [if_neg (by omega)]
        exact cmpL_tr es k ih l m h1 h2
      · rw [if_pos e6]; exact cmpI_le.2 (by omega)
    · rw [if_pos e3]; exact cmpV_le.2 (leV_trans hv1 hv2)
/-! trees alike -/
mutual
def eqD : DT → DT → Bool
  | .node e k, .node f l => decide (e = f) && decide (k.length = l.length) && eqL k l
def eqL : List DT → List DT → Bool
  | [], _ => true
  | _ :: _, [] => true
  | d :: k, f :: l => eqD d f && eqL k l
end
theorem eqL_iff : ∀ (k l : List DT), k.length = l.length → (∀ d ∈ k, ∀ f, eqD d f = true ↔ d = f) → (eqL k l = true ↔ k = l)
  | [], [], _, _ => by simp [eqL]
  | [], _ :: _, h, _ => by simp at h
  | _ :: _, [], h, _ => by simp at h
  | d :: k, f :: l, h, ih => by
    rw [eqL, Bool.and_eq_true, ih d (by simp) f, eqL_iff k l (by simpa using h) (fun x hx => ih x (by simp [hx]))]
    simp
theorem eqD_iff (a : DT) : ∀ b, eqD a b = true ↔ a = b := by
  induction a using DT.ind with
  | h e k ih =>
    rintro ⟨f, l⟩
    rw [eqD, Bool.and_eq_true, Bool.and_eq_true, decide_eq_true_eq, decide_eq_true_eq]
    constructor
    · rintro ⟨⟨rfl, h1⟩, h2⟩
      rw [(eqL_iff k l h1 ih).1 h2]
    · intro h
      injection h with h1 h2
      subst h1 h2
      exact ⟨⟨rfl, rfl⟩, (eqL_iff k k rfl ih).2 rfl⟩
end
end Go.Proofs.PK
/-
  A binary heap as plain mathematics.
-/
namespace Go.Proofs.PK
section
variable {α : Type} (bf : α → α → Bool)
/-- 'before' orders weakly -/
structure WO : Prop where
  irr : ∀ a, bf a a = false
  tr : ∀ a b c, bf b a = false → bf c b = false → bf c a = false
  asym : ∀ a b, bf a b = true → bf b a = false
def swp (H : Nat → α) (i j : Nat) : Nat → α := upd (upd H i (H j)) j (H i)
theorem swp_left (H : Nat → α) (i j : Nat) : swp H i j i = H j := by
  unfold swp upd
  by_cases h : i = j
  · subst h; simp
  · rw [if_neg h, if_pos rfl]
theorem swp_right (H : Nat → α) (i j : Nat) : swp H i j j = H i := by unfold swp upd; simp
theorem swp_other (H : Nat → α) (i j k : Nat) (h1 : k ≠ i) (h2 : k ≠ j) : swp H i j k = H k := by unfold swp upd; rw [if_neg h2, if_neg h1]
theorem swp_mem (H : Nat → α) {i j m : Nat} (hi : i < m) (hj : j < m) (c : α) : (∃ k, k < m ∧ swp H i j k = c) ↔ ∃ k, k < m ∧ H k = c := by
  constructor
  · rintro ⟨k, hk, h⟩
    by_cases h1 : k = i
    · subst h1; rw [swp_left] at h; exact ⟨j, hj, h⟩
    · by_cases h2 : k = j
      · subst h2; rw [swp_right] at h; exact ⟨i, hi, h⟩
      · rw [swp_other _ _ _ _ h1 h2] at h; exact ⟨k, hk, h⟩
  · rintro ⟨k, hk, h⟩
    by_cases h1 : k = i
    · subst h1; exact ⟨j, hj, by rw [swp_right]; exact h⟩
    · by_cases h2 : k = j
      · subst h2; exact ⟨i, hi, by rw [swp_left]; exact h⟩
      · exact ⟨k, hk, by rw [swp_other _ _ _ _ h1 h2]; exact h⟩
def HeapOK (H : Nat → α) (m : Nat) : Prop := ∀ j, 0 < j → j < m → bf (H j) (H ((j - 1) / 2)) = false
def UpInv (H : Nat → α) (m i : Nat) : Prop := (∀ j, 0 < j → j < m → j ≠ i → bf (H j) (H ((j - 1) / 2)) = false) ∧ (∀ j, 0 < j → j < m → (j - 1) / 2 = i → 0 < i → bf (H j) (H ((i - 1) / 2)) = false)
def DownInv (H : Nat → α) (m i : Nat) : Prop := (∀ j, 0 < j → j < m → (j - 1) / 2 ≠ i → bf (H j) (H ((j - 1) / 2)) = false) ∧ (∀ j, 0 < j → j < m → (j - 1) / 2 = i → 0 < i → bf (H j) (H ((i - 1) / 2)) = false)
variable {bf}
theorem UpInv.stop {H : Nat → α} {m i : Nat} (h : UpInv bf H m i) (hs : i = 0 ∨ bf (H i) (H ((i - 1) / 2)) = false) : HeapOK bf H m := by
  intro j hj0 hj
  by_cases e : j = i
  · subst e
    rcases hs with hs | hs
    · omega
    · exact hs
  · exact h.1 j hj0 hj e
theorem UpInv.step {H : Nat → α} {m i : Nat} (wo : WO bf) (h : UpInv bf H m i) (hi0 : 0 < i) (hi : i < m) (hb : bf (H i) (H ((i - 1) / 2)) = true) : UpInv bf (swp H i ((i - 1) / 2)) m ((i - 1) / 2) := by
  have hp : (i - 1) / 2 < i := by omega
  generalize hpe : (i - 1) / 2 = p at *
  refine ⟨fun j hj0 hj hjp => ?_, fun j hj0 hj hjp hp0 => ?_⟩
  · by_cases e : j = i
    · subst e
      rw [hpe, swp_left, swp_right]
      exact wo.asym _ _ hb
    · rw [swp_other _ _ _ _ e hjp]
      by_cases e2 : (j - 1) / 2 = i
      · rw [e2, swp_left]
        have := h.2 j hj0 hj e2 hi0
        rwa [hpe] at this
      · by_cases e3 : (j - 1) / 2 = p
        · rw [e3, swp_right]
          have h1 := h.1 j hj0 hj e
          rw [e3] at h1
          exact wo.tr _ _ _ (wo.asym _ _ hb) h1
        · rw [swp_other _ _ _ _ e2 e3]; exact h.1 j hj0 hj e
  · have hne : (p - 1) / 2 ≠ i ∧ (p - 1) / 2 ≠ p := by omega
    rw [swp_other _ _ _ ((p - 1) / 2) hne.1 hne.2]
    by_cases e : j = i
    · subst e
      rw [swp_left]
      exact h.1 p hp0 (by omega) (by omega)
    · rw [swp_other _ _ _ j e (by omega)]
      have h1 := h.1 j hj0 hj e
      rw [hjp] at h1
      exact wo.tr _ _ _ (h.1 p hp0 (by omega) (by omega)) h1
theorem DownInv.stop {H : Nat → α} {m i : Nat} (h : DownInv bf H m i) (hs : ∀ j, 0 < j → j < m → (j - 1) / 2 = i → bf (H j) (H i) = false) : HeapOK bf H m := by
  intro j hj0 hj
  by_cases e : (j - 1) / 2 = i
  · have := hs j hj0 hj e
    rwa [e]
  · exact h.1 j hj0 hj e
theorem DownInv.step {H : Nat → α} {m i l : Nat} (wo : WO bf) (h : DownInv bf H m i) (hl0 : 0 < l) (hl : l < m) (hli : (l - 1) / 2 = i) (hb : bf (H l) (H i) = true)
    (hs : ∀ j, 0 < j → j < m → (j - 1) / 2 = i → bf (H j) (H l) = false) : DownInv bf (swp H i l) m l := by
  have hil : i < l := by omega
  refine ⟨fun j hj0 hj hjp => ?_, fun j hj0 hj hjp _ => ?_⟩
  · by_cases e : (j - 1) / 2 = i
    · rw [e, swp_left]
      by_cases e2 : j = l
      · subst e2; rw [swp_right]; exact wo.asym _ _ hb
      · rw [swp_other _ _ _ j (by omega) e2]; exact hs j hj0 hj e
    · rw [swp_other _ _ _ ((j - 1) / 2) e hjp]
      by_cases e2 : j = i
      · subst e2
        rw [swp_left]
        exact h.2 l hl0 hl hli hj0
      · rw [swp_other _ _ _ j e2 (by omega)]; exact h.1 j hj0 hj e
  · rw [hli, swp_left, swp_other _ _ _ j (by omega) (by omega)]
    have := h.1 j hj0 hj (by omega)
    rw [hjp] at this
    exact this
theorem heap_min (wo : WO bf) {H : Nat → α} {m : Nat} (h : HeapOK bf H m) : ∀ (n i : Nat), i ≤ n → i < m → bf (H i) (H 0) = false
  | 0, i, hi, _ => by
    have : i = 0 := by omega
    subst this; exact wo.irr _
  | n + 1, i, hi, him => by
    by_cases e : i = 0
    · subst e; exact wo.irr _
    · exact wo.tr _ _ _ (heap_min wo h n ((i - 1) / 2) (by omega) (by omega)) (h i (by omega) him)
/-- a new last element -/
theorem HeapOK.push {H : Nat → α} {m : Nat} (h : HeapOK bf H m) (x : α) : UpInv bf (upd H m x) (m + 1) m := by
  refine ⟨fun j hj0 hj hne => ?_, fun j hj0 hj hp _ => by omega⟩
  rw [upd_other _ _ _ _ hne, upd_other _ _ _ _ (by omega)]
  exact h j hj0 (by omega)
/-- the first goes, the last takes its place -/
theorem HeapOK.pop {H : Nat → α} {m : Nat} (h : HeapOK bf H m) (hm : 0 < m) : DownInv bf (swp H 0 (m - 1)) (m - 1) 0 := by
  refine ⟨fun j hj0 hj hp => ?_, fun j hj0 hj hp h0 => by omega⟩
  rw [swp_other _ _ _ j (by omega) (by omega), swp_other _ _ _ ((j - 1) / 2) hp (by omega)]
  exact h j hj0 (by omega)
theorem pop_mem (H : Nat → α) {m : Nat} (hm : 0 < m) (c : α) : (∃ k, k < m ∧ H k = c) ↔ c = H 0 ∨ ∃ k, k < m - 1 ∧ swp H 0 (m - 1) k = c := by
  constructor
  · rintro ⟨k, hk, h⟩
    by_cases h0 : k = 0
    · subst h0; exact .inl h.symm
    · by_cases h1 : k = m - 1
      · subst h1; exact .inr ⟨0, by omega, by rw [swp_left]; exact h⟩
      · exact .inr ⟨k, by omega, by rw [swp_other _ _ _ _ h0 h1]; exact h⟩
  · rintro (h | ⟨k, hk, h⟩)
    · exact ⟨0, hm, h.symm⟩
    · exact (swp_mem H hm (by omega : m - 1 < m) c).1 ⟨k, by omega, h⟩
end
/-- an entry of the queue -/
structure EN where
  n : Nat
  v : VV
  hd : Int
  tm : Int
def bef (a b : EN) : Bool := ltV a.v b.v || (!(ltV b.v a.v) && decide (a.tm < b.tm))
theorem bef_wo : WO bef := by
  refine ⟨fun a => ?_, fun a b c => ?_, fun a b => ?_⟩
  all_goals
    unfold bef ltV
    simp only [Bool.or_eq_false_iff, Bool.and_eq_false_iff, Bool.or_eq_true, Bool.and_eq_true, Bool.not_eq_true', Bool.not_eq_false', decide_eq_true_eq, decide_eq_false_iff_not]
    omega
theorem bef_le {a b : EN} (h : bef b a = false) : leV a.v b.v := by
  unfold bef at h
  simp only [Bool.or_eq_false_iff] at h
  exact leV_of_not_lt h.1
end Go.Proofs.PK
/-
  Least values as plain mathematics: what the reference's iteration keeps, why it ends, what both solvers have found; the chosen hyperedges.
-/
namespace Go.Proofs.PK
def rank (v : VV) : Nat := v.c.toNat * 1099511627777 + v.s.toNat
theorem rank_lt {a b : VV} (ha : okV a) (hb : okV b) (h : ltV a b = true) : rank a < rank b := by
  obtain ⟨a1, a2, a3, a4, _⟩ := ha
  obtain ⟨b1, b2, b3, b4, _⟩ := hb
  unfold ltV at h
  simp only [Bool.or_eq_true, Bool.and_eq_true, decide_eq_true_eq] at h
  unfold rank INF at *
  omega
def rsum (V : Nat → VV) : Nat → Nat
  | 0 => 0
  | n + 1 => rsum V n + rank (V n)
theorem rsum_congr {V W : Nat → VV} : ∀ n, (∀ i, i < n → V i = W i) → rsum V n = rsum W n
  | 0, _ => rfl
  | n + 1, h => by rw [rsum, rsum, rsum_congr n (fun i hi => h i (by omega)), h n (by omega)]
theorem rsum_upd {V : Nat → VV} {i : Nat} {x : VV} (hx : rank x < rank (V i)) : ∀ n, i < n → rsum (upd V i x) n < rsum V n
  | 0, h => by omega
  | n + 1, h => by
    rw [rsum, rsum]
    by_cases e : i = n
    · subst e
      rw [upd_same, rsum_congr (V := upd V i x) (W := V) i (fun j hj => upd_other _ _ _ _ (by omega))]
      omega
    · rw [upd_other _ _ _ _ (fun h => e h.symm)]
      have := rsum_upd hx n (by omega)
      omega
section
variable (es : List EE)
def Above (V : Nat → VV) : Prop := ∀ W : Nat → VV, (∀ v, okV (W v)) → Closed es W → ∀ v, leV (W v) (V v)
/-- least values -/
structure Sol (V : Nat → VV) : Prop where
  ok : ∀ v, okV (V v)
  closed : Closed es V
  above : Above es V
variable {es}
theorem Sol.unique {V W : Nat → VV} (h : Sol es V) (k : Sol es W) : V = W := by
  funext v
  exact leV_antisymm (k.above V h.ok h.closed v) (h.above W k.ok k.closed v)
theorem sol_of_reached {K : Nat → VV} (hes : ∀ e ∈ es, okE e) (hK : ∀ v, okV (K v)) (hr : ∀ v, K v = top ∨ Reached es K v) (hck : Closed es K) : Sol es K :=
  ⟨hK, hck, fun _ hW hc v => closed_le es hes hW hK hc hr v⟩
theorem above_top : Above es (fun _ => top) := fun _ hW _ v => leV_top (hW v)
theorem Above.step {V : Nat → VV} (hes : ∀ e ∈ es, okE e) (hV : ∀ v, okV (V v)) (h : Above es V) {e : EE} (he : e ∈ es) : Above es (upd V e.h (ev V e)) := by
  intro W hW hc v
  have := above_step es hes hV hW hc (fun v => h W hW hc v) he v
  unfold upd
  exact this
theorem ok_upd {V : Nat → VV} {i : Nat} {x : VV} (hV : ∀ v, okV (V v)) (hx : okV x) : ∀ v, okV (upd V i x v) := by
  intro v
  unfold upd
  split
  · exact hx
  · exact hV v
/-- the least of some values -/
def least : List VV → VV
  | [] => top
  | a :: l => if ltV a (least l) = true then a else least l
theorem least_le : ∀ (l : List VV) (a : VV), a ∈ l → leV (least l) a
  | b :: l, a, h => by
    rw [least]
    split
    · rename_i hb
      rcases List.mem_cons.1 h with rfl | h
      · exact leV_refl _
      · exact leV_trans (leV_of_lt hb) (least_le l a h)
    · rename_i hb
      rcases List.mem_cons.1 h with rfl | h
      · exact leV_of_not_lt (by simpa using hb)
      · exact least_le l a h
theorem least_mem : ∀ l : List VV, least l = top ∨ least l ∈ l
  | [] => .inl rfl
  | b :: l => by
    rw [least]
    split
    · exact .inr (by simp)
    · rcases least_mem l with h | h
      · exact .inl h
      · exact .inr (by simp [h])
/-- a least value is attained -/
theorem Sol.attained {V : Nat → VV} (hes : ∀ e ∈ es, okE e) (h : Sol es V) (v : Nat) : V v = top ∨ ∃ e ∈ es, e.h = v ∧ ev V e = V v := by
  let M := least ((es.filter (fun e => decide (e.h = v))).map (ev V))
  have hM : okV M ∧ (M = top ∨ ∃ e ∈ es, e.h = v ∧ ev V e = M) := by
    rcases least_mem ((es.filter (fun e => decide (e.h = v))).map (ev V)) with h1 | h1
    · exact ⟨by show okV (least _); rw [h1]; exact okV_top, .inl h1⟩
    · obtain ⟨e, he, h2⟩ := List.mem_map.1 h1
      rw [List.mem_filter] at he
      exact ⟨by show okV (least _); rw [← h2]; exact ev_ok (hes e he.1) h.ok, .inr ⟨e, he.1, by simpa using he.2, h2⟩⟩
  have hVM : leV (V v) M := by
    rcases hM.2 with h1 | ⟨e, he, h1, h2⟩
    · rw [h1]; exact leV_top (h.ok v)
    · rw [← h2, ← h1]; exact h.closed e he
  have hVW : ∀ u, leV (V u) (upd V v M u) := by
    intro u
    by_cases e : u = v
    · subst e; rw [upd_same]; exact hVM
    · rw [upd_other _ _ _ _ e]; exact leV_refl _
  have hWo := ok_upd (i := v) h.ok hM.1
  have hcl : Closed es (upd V v M) := by
    intro e he
    have hm := ev_mono (e := e) (hes e he) h.ok hWo (fun t _ => hVW t)
    by_cases e1 : e.h = v
    · rw [e1, upd_same]
      refine leV_trans ?_ hm
      exact least_le _ _ (List.mem_map.2 ⟨e, List.mem_filter.2 ⟨he, by simp [e1]⟩, rfl⟩)
    · rw [upd_other _ _ _ _ e1]
      exact leV_trans (h.closed e he) hm
  have hle := h.above _ hWo hcl v
  rw [upd_same] at hle
  have heq : V v = M := leV_antisymm hVM hle
  rcases hM.2 with h1 | ⟨e, he, h1, h2⟩
  · exact .inl (heq.trans h1)
  · exact .inr ⟨e, he, h1, h2.trans heq.symm⟩
end
/-! ### the chosen hyperedges -/
/-- does hyperedge e attain the value of node i, below the infinite? -/
def att (V : Nat → VV) (i : Nat) (e : EE) : Bool := decide (e.h = i) && decide ((V i).c < INF) && decide (ev V e = V i)
/-- the first that does, numbered from k on -/
def chL (V : Nat → VV) : List EE → Int → Nat → Int
  | [], _, _ => -1
  | e :: l, k, i => if att V i e = true then k else chL V l (k + 1) i
theorem chL_bd (V : Nat → VV) : ∀ (l : List EE) (k : Int) (i : Nat), chL V l k i = -1 ∨ (k ≤ chL V l k i ∧ chL V l k i < k + l.length)
  | [], _, _ => .inl rfl
  | e :: l, k, i => by
    rw [chL]
    split
    · right; simp only [List.length_cons]; omega
    · rcases chL_bd V l (k + 1) i with h | h
      · exact .inl h
      · right; simp only [List.length_cons]; omega
theorem chL_append (V : Nat → VV) : ∀ (l : List EE) (k : Int) (i : Nat) (e : EE), 0 ≤ k → chL V (l ++ [e]) k i = if chL V l k i < 0 ∧ att V i e = true then k + l.length else chL V l k i
  | [], k, i, e, _ => by
    simp only [List.nil_append, chL, List.length_nil]
    by_cases h : att V i e = true
    · simp [h]
    · simp [h]
  | x :: l, k, i, e, hk => by
    rw [List.cons_append, chL, chL]
    by_cases h : att V i x = true
    · rw [if_pos h, if_pos h, if_neg (by omega)]
    · rw [if_neg h, if_neg h, chL_append V l (k + 1) i e (by omega)]
      simp only [List.length_cons]
      split <;> omega
theorem chL_none {V : Nat → VV} : ∀ {l : List EE} {k : Int} {i : Nat}, 0 ≤ k → chL V l k i < 0 → ∀ e ∈ l, att V i e = false
  | [], _, _, _, _ => by simp
  | x :: l, k, i, hk, h => by
    rw [chL] at h
    by_cases h1 : att V i x = true
    · rw [if_pos h1] at h; omega
    · rw [if_neg h1] at h
      intro e he
      rcases List.mem_cons.1 he with rfl | he
      · simpa using h1
      · exact chL_none (by omega) h e he
/-- what was chosen -/
theorem chL_some {V : Nat → VV} : ∀ {l : List EE} {k : Int} {i : Nat}, 0 ≤ k → 0 ≤ chL V l k i → ∃ (j : Nat) (e : EE), chL V l k i = k + j ∧ l[j]? = some e ∧ att V i e = true ∧ ∀ (m : Nat) (f : EE), m < j → l[m]? = some f → att V i f = false
  | [], _, _, _, h => by simp [chL] at h
  | x :: l, k, i, hk, h => by
    rw [chL] at h ⊢
    by_cases h1 : att V i x = true
    · rw [if_pos h1]
      exact ⟨0, x, by simp, rfl, h1, fun m f hm => by omega⟩
    · rw [if_neg h1] at h ⊢
      obtain ⟨j, e, h2, h3, h4, h5⟩ := chL_some (k := k + 1) (by omega) h
      refine ⟨j + 1, e, by rw [h2]; push_cast; omega, by simpa using h3, h4, fun m f hm hf => ?_⟩
      cases m with
      | zero => simp at hf; subst hf; simpa using h1
      | succ m => exact h5 m f (by omega) (by simpa using hf)
end Go.Proofs.PK
/-
  Knuth's algorithm as plain mathematics: a node is settled, its uses are gone through.
-/
namespace Go.Proofs.PK
/-- how many of the first n numbers are not nought -/
def cnt (O : Nat → Nat) : Nat → Nat
  | 0 => 0
  | n + 1 => cnt O n + (if 0 < O n then 1 else 0)
theorem cnt_congr {O P : Nat → Nat} : ∀ n, (∀ i, i < n → O i = P i) → cnt O n = cnt P n
  | 0, _ => rfl
  | n + 1, h => by rw [cnt, cnt, cnt_congr n (fun i hi => h i (by omega)), h n (by omega)]
theorem cnt_upd (O : Nat → Nat) (k x : Nat) : ∀ n, k < n → cnt (upd O k x) n + (if 0 < O k then 1 else 0) = cnt O n + (if 0 < x then 1 else 0)
  | 0, h => by omega
  | n + 1, h => by
    rw [cnt, cnt]
    by_cases e : k = n
    · subst e
      rw [upd_same, cnt_congr (O := upd O k x) (P := O) k (fun i hi => upd_other _ _ _ _ (by omega))]
      omega
    · rw [upd_other _ _ _ _ (fun h => e h.symm)]
      have := cnt_upd O k x n (by omega)
      omega
section
variable {es : List EE}
/-- an offer, the agenda told by its elements -/
theorem KI.offered {S : Nat → Bool} {V : Nat → VV} {o : Nat → Nat} {ag : List (Nat × VV)} {L : List Nat} {x : VV} {don : Nat → Prop} (h : KI es S V o ag L x don) (hes : ∀ e ∈ es, okE e)
    {k : Nat} {e : EE} (he : es[k]? = some e) (ht : ∀ t ∈ e.t, S t = true) (hx : leV x (ev V e)) (o' : Nat → Nat) (don' : Nat → Prop) (ho : ∀ i, i ≠ k → don' i → don i ∧ (o' i = 0 → o i = 0)) (ag' : List (Nat × VV))
    (hag : ((ev V e).c < INF ∧ S e.h = false ∧ ∀ y, y ∈ ag' ↔ y = (e.h, ev V e) ∨ y ∈ ag) ∨ (¬ ((ev V e).c < INF ∧ S e.h = false) ∧ ∀ y, y ∈ ag' ↔ y ∈ ag)) : KI es S V o' ag' L x don' := by
  refine KI.perm (h.offer hes he ht hx o' don' ho _ rfl) (fun y => ?_)
  rcases hag with ⟨h1, h2, h3⟩ | ⟨h1, h2⟩
  · rw [if_pos ⟨h1, h2⟩, h3 y, List.mem_append, List.mem_singleton]
    exact Or.comm
  · rw [if_neg h1, h2 y]
variable (es)
/-- every use is noted, once for each occurrence -/
def UseC (L : Nat → List Nat) : Prop := ∀ (v k : Nat) (e : EE), es[k]? = some e → (L v).count k = e.t.count v
/-- between two pops -/
structure MI (S : Nat → Bool) (V : Nat → VV) (O : Nat → Nat) (ag : List (Nat × VV)) (D : List Nat) (x : VV) (m nx : Nat) : Prop where
  ki : KI es S V O ag D x (fun _ => True)
  om : ∀ (k : Nat) (e : EE), es[k]? = some e → O k = mis S e.t
  fin : ∀ v, S v = true → (V v).c < INF
  nx : nx + cnt O es.length ≤ es.length
/-- while the uses Ls of node u are gone through; p are done -/
structure SJ (u : Nat) (Ls : List Nat) (p : Nat) (M : Nat) (S : Nat → Bool) (V : Nat → VV) (O : Nat → Nat) (ag : List (Nat × VV)) (D : List Nat) (x : VV) (m nx : Nat) : Prop where
  ki : KI es S V O ag D x (fun _ => True)
  om : ∀ (k : Nat) (e : EE), es[k]? = some e → O k = mis S e.t + (Ls.drop p).count k
  fin : ∀ v, S v = true → (V v).c < INF
  nx : nx + cnt O es.length ≤ es.length
  ms : m + cnt O es.length ≤ M
  vu : V u = x
variable {es}
theorem MI.settle {S : Nat → Bool} {V : Nat → VV} {O : Nat → Nat} {ag ag' : List (Nat × VV)} {D : List Nat} {x : VV} {m nx : Nat} {L : Nat → List Nat} (h : MI es S V O ag D x (m + 1) nx) (hes : ∀ e ∈ es, okE e) (hL : UseC es L)
    {c : Nat × VV} (hc : ∀ d, d ∈ ag ↔ d = c ∨ d ∈ ag') (hs : S c.1 = false) (hmin : ∀ d ∈ ag', leV c.2 d.2) :
    SJ es c.1 (L c.1) 0 (m + cnt O es.length) (upd S c.1 true) (upd V c.1 c.2) O ag' (D ++ [c.1]) c.2 m nx := by
  have hcand := h.ki.cand c ((hc c).2 (.inl rfl))
  refine ⟨h.ki.settle hes (fun k e hk _ h0 => by rw [← h.om k e hk]; exact h0) hc hs hmin, fun k e hk => ?_, fun v hv => ?_, h.nx, Nat.le_refl _, upd_same _ _ _⟩
  · rw [h.om k e hk, mis_upd S c.1 hs e.t, List.drop_zero, hL c.1 k e hk]
  · by_cases e : v = c.1
    · subst e; rw [upd_same]; exact hcand.2.1
    · rw [upd_other _ _ _ _ e] at hv ⊢; exact h.fin v hv
theorem SJ.done {u p M m nx : Nat} {Ls : List Nat} {S : Nat → Bool} {V : Nat → VV} {O : Nat → Nat} {ag : List (Nat × VV)} {D : List Nat} {x : VV} (h : SJ es u Ls p M S V O ag D x m nx) (hp : Ls.length ≤ p) : MI es S V O ag D x m nx :=
  ⟨h.ki, fun k e hk => by rw [h.om k e hk, List.drop_of_length_le hp]; simp, h.fin, h.nx⟩
theorem drop_cons {l : List Nat} {p k : Nat} (h : l[p]? = some k) : l.drop p = k :: l.drop (p + 1) := by
  obtain ⟨hp, he⟩ := List.getElem?_eq_some_iff.1 h
  rw [List.drop_eq_getElem_cons hp, he]
/-- what is known at a use -/
theorem SJ.at {u p M m nx k : Nat} {L : Nat → List Nat} {S : Nat → Bool} {V : Nat → VV} {O : Nat → Nat} {ag : List (Nat × VV)} {D : List Nat} {x : VV} (h : SJ es u (L u) p M S V O ag D x m nx) (hL : UseC es L) (hk : (L u)[p]? = some k) (hb : ∀ i ∈ L u, i < es.length) :
    ∃ e, es[k]? = some e ∧ 0 < O k ∧ u ∈ e.t := by
  have hm := List.mem_of_getElem? hk
  have hlt := hb k hm
  refine ⟨es[k], List.getElem?_eq_getElem hlt, ?_, ?_⟩
  · rw [h.om k _ (List.getElem?_eq_getElem hlt), drop_cons hk, List.count_cons_self]
    omega
  · have h1 := hL u k _ (List.getElem?_eq_getElem hlt)
    have h2 : 0 < (L u).count k := List.count_pos_iff.2 hm
    rw [h1] at h2
    exact List.count_pos_iff.1 h2
theorem SJ.om' {u p M m nx k : Nat} {Ls : List Nat} {S : Nat → Bool} {V : Nat → VV} {O : Nat → Nat} {ag : List (Nat × VV)} {D : List Nat} {x : VV} (h : SJ es u Ls p M S V O ag D x m nx) (hk : Ls[p]? = some k) (h0 : 0 < O k) :
    ∀ (i : Nat) (e : EE), es[i]? = some e → upd O k (O k - 1) i = mis S e.t + (Ls.drop (p + 1)).count i := by
  intro i e hi
  have h1 := h.om i e hi
  rw [drop_cons hk, List.count_cons] at h1
  by_cases e1 : i = k
  · subst e1
    rw [upd_same]
    simp at h1
    omega
  · rw [upd_other _ _ _ _ e1, h1]
    have : (k == i) = false := by simp; exact fun h => e1 h.symm
    rw [this]
    simp
/-- the count has not come to nought -/
theorem SJ.skip {u p M m nx k : Nat} {Ls : List Nat} {S : Nat → Bool} {V : Nat → VV} {O : Nat → Nat} {ag : List (Nat × VV)} {D : List Nat} {x : VV} (h : SJ es u Ls p M S V O ag D x m nx) (hk : Ls[p]? = some k) (hkl : k < es.length) (h0 : 0 < O k) (h1 : O k - 1 ≠ 0) :
    SJ es u Ls (p + 1) M S V (upd O k (O k - 1)) ag D x m nx := by
  have hc := cnt_upd O k (O k - 1) es.length hkl
  rw [if_pos h0, if_pos (by omega)] at hc
  refine ⟨h.ki.again _ _ (fun i _ hi => ⟨trivial, ?_⟩), h.om' hk h0, h.fin, by have := h.nx; omega, by have := h.ms; omega, h.vu⟩
  by_cases e : i = k
  · subst e; rw [upd_same] at hi; exact absurd hi h1
  · rw [upd_other _ _ _ _ e] at hi; exact hi
/-- the count has come to nought: the hyperedge is offered -/
theorem SJ.offer {u p M m nx k m' nx' : Nat} {Ls : List Nat} {S : Nat → Bool} {V : Nat → VV} {O : Nat → Nat} {ag ag' : List (Nat × VV)} {D : List Nat} {x : VV} (h : SJ es u Ls p M S V O ag D x m nx) (hes : ∀ e ∈ es, okE e) (hk : Ls[p]? = some k) (h0 : 0 < O k) (h1 : O k - 1 = 0) {e : EE} (he : es[k]? = some e) (hu : u ∈ e.t)
    (hag : ((ev V e).c < INF ∧ S e.h = false ∧ nx' = nx + 1 ∧ m' = m + 1 ∧ ∀ y, y ∈ ag' ↔ y = (e.h, ev V e) ∨ y ∈ ag) ∨ (¬ ((ev V e).c < INF ∧ S e.h = false) ∧ nx' = nx ∧ m' = m ∧ ∀ y, y ∈ ag' ↔ y ∈ ag)) :
    SJ es u Ls (p + 1) M S V (upd O k (O k - 1)) ag' D x m' nx' := by
  have hkl := (List.getElem?_eq_some_iff.1 he).1
  have hc := cnt_upd O k (O k - 1) es.length hkl
  rw [if_pos h0, if_neg (by omega)] at hc
  have hom := h.om' hk h0
  have hall : ∀ t ∈ e.t, S t = true := mis_zero.1 (by have := hom k e he; rw [upd_same, h1] at this; omega)
  have hmem := List.mem_of_getElem? he
  have hx : leV x (ev V e) := by
    rw [← h.vu]
    exact ev_sup (hes e hmem) h.ki.ok hu
  refine ⟨h.ki.offered hes he hall hx _ _ (fun i hi _ => ⟨trivial, fun h9 => by rw [upd_other _ _ _ _ hi] at h9; exact h9⟩) ag' ?_, hom, h.fin, ?_, ?_, h.vu⟩
  · rcases hag with ⟨a1, a2, _, _, a3⟩ | ⟨a1, _, _, a2⟩
    · exact .inl ⟨a1, a2, a3⟩
    · exact .inr ⟨a1, a2⟩
  · have := h.nx
    rcases hag with ⟨_, _, a3, _, _⟩ | ⟨_, a3, _, _⟩ <;> omega
  · have := h.ms
    rcases hag with ⟨_, _, _, a3, _⟩ | ⟨_, _, a3, _⟩ <;> omega
/-- a candidate of a settled node is dropped -/
theorem MI.drop {S : Nat → Bool} {V : Nat → VV} {O : Nat → Nat} {ag ag' : List (Nat × VV)} {D : List Nat} {x : VV} {m nx : Nat} (h : MI es S V O ag D x (m + 1) nx) {c : Nat × VV} (hc : ∀ d, d ∈ ag ↔ d = c ∨ d ∈ ag') (hs : S c.1 = true) : MI es S V O ag' D x m nx :=
  ⟨h.ki.drop hc hs, h.om, h.fin, h.nx⟩
/-- the agenda is empty -/
theorem MI.sol {S : Nat → Bool} {V : Nat → VV} {O : Nat → Nat} {D : List Nat} {x : VV} {m nx : Nat} (h : MI es S V O [] D x m nx) (hes : ∀ e ∈ es, okE e) : Sol es V :=
  sol_of_reached hes h.ki.ok (fun v => h.ki.reached v) (h.ki.closed hes (fun k e hk => ⟨trivial, h.om k e hk⟩))
end
end Go.Proofs.PK
/-
  The uses noted, as plain mathematics.
-/
namespace Go.Proofs.PK
/-- hyperedges before k, and of k the first j tails, are noted -/
def UsP (es : List EE) (k j : Nat) (L : Nat → List Nat) : Prop := ∀ (v i : Nat), (L v).count i = if i < k then ((es[i]?).map (fun e => e.t.count v)).getD 0 else if i = k then ((es[i]?).map (fun e => (e.t.take j).count v)).getD 0 else 0
theorem UsP.start (es : List EE) : UsP es 0 0 (fun _ => []) := by
  intro v i
  simp only [List.count_nil]
  split
  · omega
  · split
    · cases es[i]? <;> simp
    · rfl
theorem UsP.push {es : List EE} {k j t : Nat} {L : Nat → List Nat} {e : EE} (h : UsP es k j L) (he : es[k]? = some e) (ht : e.t[j]? = some t) : UsP es k (j + 1) (upd L t (L t ++ [k])) := by
  intro v i
  have h1 := h v i
  by_cases ev : v = t
  · subst ev
    rw [upd_same, List.count_append, h1]
    by_cases e1 : i < k
    · rw [if_pos e1, if_pos e1]
      have : (k == i) = false := by simp; omega
      simp [List.count_cons, this]
    · rw [if_neg e1, if_neg e1]
      by_cases e2 : i = k
      · subst e2
        rw [if_pos rfl, if_pos rfl, he]
        simp only [Option.map_some, Option.getD_some]
        rw [List.take_add_one, ht, List.count_append]
        simp
      · rw [if_neg e2, if_neg e2]
        have : (k == i) = false := by simp; omega
        simp [List.count_cons, this]
  · rw [upd_other _ _ _ _ ev, h1]
    by_cases e1 : i < k
    · rw [if_pos e1, if_pos e1]
    · rw [if_neg e1, if_neg e1]
      by_cases e2 : i = k
      · subst e2
        rw [if_pos rfl, if_pos rfl, he]
        simp only [Option.map_some, Option.getD_some]
        rw [List.take_add_one, ht, List.count_append]
        have : (t == v) = false := by simp; exact fun h => ev h.symm
        simp [List.count_cons, this]
      · rw [if_neg e2, if_neg e2]
theorem UsP.next {es : List EE} {k j : Nat} {L : Nat → List Nat} {e : EE} (h : UsP es k j L) (he : es[k]? = some e) (hj : e.t.length ≤ j) : UsP es (k + 1) 0 L := by
  intro v i
  rw [h v i]
  by_cases e1 : i < k
  · rw [if_pos e1, if_pos (by omega)]
  · rw [if_neg e1]
    by_cases e2 : i = k
    · subst e2
      rw [if_pos rfl, if_pos (by omega), he]
      simp only [Option.map_some, Option.getD_some]
      rw [List.take_of_length_le hj]
    · rw [if_neg e2, if_neg (by omega)]
      by_cases e3 : i = k + 1
      · rw [if_pos e3]
        cases es[i]? <;> simp
      · rw [if_neg e3]
theorem UsP.all {es : List EE} {L : Nat → List Nat} (h : UsP es es.length 0 L) : UseC es L ∧ ∀ v, ∀ i ∈ L v, i < es.length := by
  refine ⟨fun v k e hk => ?_, fun v i hi => ?_⟩
  · have hlt := (List.getElem?_eq_some_iff.1 hk).1
    rw [h v k, if_pos hlt, hk]; rfl
  · refine Classical.byContradiction (fun hn => ?_)
    have h1 : 0 < (L v).count i := List.count_pos_iff.2 hi
    rw [h v i, if_neg hn] at h1
    rw [List.getElem?_eq_none (by omega)] at h1
    simp at h1
theorem upd_len {L : Nat → List Nat} {t k M : Nat} (h : ∀ v, (L v).length ≤ M) : ∀ v, (upd L t (L t ++ [k]) v).length ≤ M + 1 := by
  intro v
  unfold upd
  split
  · have := h t; simp; omega
  · have := h v; omega
/-- the first offers: hyperedges before k without tails were offered -/
theorem KI.first {es : List EE} (hes : ∀ e ∈ es, okE e) (O : Nat → Nat) : KI es (fun _ => false) (fun _ => top) O [] [] ⟨0, 0⟩ (fun i => i < 0) := KI.start hes O _ (fun k h => by omega)
theorem leV_zero {v : VV} (h : okV v) : leV ⟨0, 0⟩ v := by
  obtain ⟨h1, h2, h3, h4, _⟩ := h
  unfold leV
  simp only
  omega
theorem mis_none (t : List Nat) : mis (fun _ => false) t = t.length := by
  unfold mis
  simp
end Go.Proofs.PK
/-
  The derivation by the chosen hyperedges: its value, its validity, and that none is less.
-/
namespace Go.Proofs.PK
/-! ### sizes below a bound -/
theorem fold_size : ∀ (l : List VV) (p : Int × Int), (∀ v ∈ l, okV v) → 0 ≤ p.1 → p.1 ≤ INF → 1 ≤ p.2 → p.2 ≤ INF → (l.foldl combG p).2 < INF → ∀ v ∈ l, v.s + p.2 ≤ (l.foldl combG p).2
  | [], _, _, _, _, _, _, _, v, h => by simp at h
  | x :: l, p, hl, h1, h2, h3, h4, hlt, v, h => by
    rw [List.foldl_cons] at hlt ⊢
    obtain ⟨k1, k2, k3, k4, _⟩ := hl x (by simp)
    have hi : (1 : Int) ≤ INF := by unfold INF; decide
    have hb1 : 0 ≤ (combG p x).1 := by unfold combG; simp only; omega
    have hb2 : (combG p x).1 ≤ INF := by unfold combG; simp only; omega
    have hb3 : 1 ≤ (combG p x).2 := by unfold combG; simp only; omega
    have hb4 : (combG p x).2 ≤ INF := by unfold combG; simp only; omega
    have hbd := fold_bd l (combG p x) (fun y hy => hl y (by simp [hy])) hb1 hb2 hb3 hb4
    have e2 : (combG p x).2 = p.2 + x.s := by
      have : (combG p x).2 < INF := by omega
      unfold combG at this ⊢; simp only at this ⊢; omega
    rcases List.mem_cons.1 h with rfl | h
    · omega
    · have := fold_size l _ (fun y hy => hl y (by simp [hy])) hb1 hb2 hb3 hb4 hlt v h
      omega
theorem comb_size {cost : Int} {l : List VV} (hc : 0 ≤ cost ∧ cost ≤ INF) (hl : ∀ v ∈ l, okV v) (hf : (comb cost l).c < INF) (hs : (comb cost l).s < INF) {v : VV} (hv : v ∈ l) : v.c < INF ∧ v.s < (comb cost l).s := by
  have h1 := comb_sup hc hl hv
  have h2 : v.c < INF := by unfold leV at h1; omega
  refine ⟨h2, ?_⟩
  unfold comb at hf hs ⊢
  split at hf
  · unfold top at hf; simp at hf
  · rename_i e
    rw [if_neg e] at hs ⊢
    simp only at hs ⊢
    have := fold_size l (cost, 1) hl hc.1 hc.2 (by simp) (show (1 : Int) ≤ INF by unfold INF; decide) hs v hv
    simp only at this
    omega
theorem comb_fin {cost : Int} {l : List VV} (hc : 0 ≤ cost ∧ cost ≤ INF) (hl : ∀ v ∈ l, okV v) (hf : (comb cost l).c < INF) {v : VV} (hv : v ∈ l) : v.c < INF := by
  have h1 := comb_sup hc hl hv
  unfold leV at h1; omega
/-! ### the chosen hyperedge of a node of finite value -/
section
variable {es : List EE}
theorem edge_mem {e : Int} {E : EE} (h : edge es e = some E) : E ∈ es := by
  unfold edge at h
  split at h
  · exact List.mem_of_getElem? h
  · cases h
theorem val_okP (hes : ∀ e ∈ es, okE e) (d : DT) : okV (val es d) := by
  induction d using DT.ind with
  | h e k ih =>
    rw [val]
    cases h : edge es e with
    | none => exact okV_top
    | some E =>
      refine comb_ok (hes E (edge_mem h)) (fun v hv => ?_)
      rw [valL_map] at hv
      obtain ⟨d, hd, rfl⟩ := List.mem_map.1 hv
      exact ih d hd
theorem att_iff {V : Nat → VV} {i : Nat} {e : EE} : att V i e = true ↔ e.h = i ∧ (V i).c < INF ∧ ev V e = V i := by
  unfold att
  rw [Bool.and_eq_true, Bool.and_eq_true, decide_eq_true_eq, decide_eq_true_eq, decide_eq_true_eq]
  exact ⟨fun ⟨⟨a, b⟩, c⟩ => ⟨a, b, c⟩, fun ⟨a, b, c⟩ => ⟨⟨a, b⟩, c⟩⟩
theorem chosen_fin {V : Nat → VV} (hes : ∀ e ∈ es, okE e) (hS : Sol es V) {v : Nat} (hv : (V v).c < INF) : ∃ (j : Nat) (E : EE), chL V es 0 v = j ∧ es[j]? = some E ∧ E.h = v ∧ ev V E = V v ∧ ∀ (m : Nat) (f : EE), m < j → es[m]? = some f → ¬ (f.h = v ∧ ev V f = V v) := by
  by_cases h0 : 0 ≤ chL V es 0 v
  · obtain ⟨j, e, h1, h2, h3, h4⟩ := chL_some (by omega) h0
    obtain ⟨a1, a2, a3⟩ := att_iff.1 h3
    refine ⟨j, e, by omega, h2, a1, a3, fun m f hm hf hh => ?_⟩
    have := h4 m f hm hf
    rw [att_iff.2 ⟨hh.1, hv, hh.2⟩] at this
    cases this
  · exfalso
    rcases hS.attained hes v with h | ⟨e, he, h1, h2⟩
    · rw [h] at hv; unfold top at hv; simp at hv
    · have := chL_none (V := V) (l := es) (k := 0) (i := v) (by omega) (by omega) e he
      rw [att_iff.2 ⟨h1, hv, h2⟩] at this
      cases this
theorem tails_fin {V : Nat → VV} (hes : ∀ e ∈ es, okE e) (hS : Sol es V) {v : Nat} {E : EE} (hE : E ∈ es) (hv : (V v).c < INF) (he : ev V E = V v) {t : Nat} (ht : t ∈ E.t) : (V t).c < INF := by
  rw [← he] at hv
  exact comb_fin (hes E hE) (fun x hx => by obtain ⟨u, _, rfl⟩ := List.mem_map.1 hx; exact hS.ok u) hv (List.mem_map.2 ⟨t, ht, rfl⟩)
theorem tails_size {V : Nat → VV} (hes : ∀ e ∈ es, okE e) (hS : Sol es V) {v : Nat} {E : EE} (hE : E ∈ es) (hv : (V v).c < INF) (hs : (V v).s < INF) (he : ev V E = V v) {t : Nat} (ht : t ∈ E.t) : (V t).s < (V v).s := by
  rw [← he] at hv hs ⊢
  exact (comb_size (hes E hE) (fun x hx => by obtain ⟨u, _, rfl⟩ := List.mem_map.1 hx; exact hS.ok u) hv hs (List.mem_map.2 ⟨t, ht, rfl⟩)).2
/-! ### the derivation by the chosen hyperedges -/
inductive Fol (V : Nat → VV) (es : List EE) : Nat → DT → Prop
  | mk {v : Nat} {E : EE} {k : List DT} (he : edge es (chL V es 0 v) = some E) (hl : k.length = E.t.length) (hk : ∀ (i : Nat) d t, k[i]? = some d → E.t[i]? = some t → Fol V es t d) : Fol V es v (.node (chL V es 0 v) k)
theorem Fol.unique {V : Nat → VV} {d : DT} : ∀ {v f}, Fol V es v d → Fol V es v f → d = f := by
  induction d using DT.ind with
  | h e k ih =>
    intro v f h1 h2
    cases h1 with
    | mk he hl hk =>
      cases h2 with
      | mk he2 hl2 hk2 =>
        rename_i E F l
        rw [he] at he2
        obtain rfl := Option.some.inj he2
        have : k = l := by
          refine List.ext_getElem? fun i => ?_
          by_cases hi : i < k.length
          · have hx := List.getElem?_eq_getElem hi
            have hy := List.getElem?_eq_getElem (l := l) (i := i) (by omega)
            have ht := List.getElem?_eq_getElem (l := E.t) (i := i) (by omega)
            rw [hx, hy, ih _ (List.mem_of_getElem? hx) (hk i _ _ hx ht) (hk2 i _ _ hy ht)]
          · rw [List.getElem?_eq_none (by omega), List.getElem?_eq_none (by omega)]
        rw [this]
theorem edge_nat {j : Nat} {E : EE} (h : es[j]? = some E) : edge es (j : Int) = some E := by
  unfold edge; rw [if_pos (by omega), Int.toNat_natCast, h]
theorem edge_some {e : Int} {E : EE} (h : edge es e = some E) : ∃ j : Nat, e = j ∧ es[j]? = some E := by
  unfold edge at h
  split at h
  · exact ⟨e.toNat, by omega, h⟩
  · cases h
theorem Fol.good {V : Nat → VV} (hes : ∀ e ∈ es, okE e) (hS : Sol es V) {d : DT} : ∀ {v : Nat}, (V v).c < INF → Fol V es v d → val es d = V v ∧ validD es d (v : Int) = true := by
  induction d using DT.ind with
  | h e k ih =>
    intro v hv h
    cases h with
    | mk he hl hk =>
      rename_i E
      obtain ⟨j, E', h1, h2, h3, h4, _⟩ := chosen_fin hes hS hv
      have hE := edge_nat h2
      rw [h1] at he
      rw [hE] at he
      obtain rfl := Option.some.inj he
      have hm : E' ∈ es := List.mem_of_getElem? h2
      have hkk : ∀ (i : Nat) d t, k[i]? = some d → E'.t[i]? = some t → val es d = V t ∧ validD es d (t : Int) = true := fun i d t hd ht =>
        ih d (List.mem_of_getElem? hd) (tails_fin hes hS hm hv h4 (List.mem_of_getElem? ht)) (hk i d t hd ht)
      rw [h1]
      constructor
      · rw [val, hE]
        simp only
        rw [valL_map, ← h4]
        unfold ev
        have : k.map (val es) = E'.t.map V := by
          refine List.ext_getElem? fun i => ?_
          rw [List.getElem?_map, List.getElem?_map]
          by_cases hi : i < k.length
          · have hx := List.getElem?_eq_getElem hi
            have ht := List.getElem?_eq_getElem (l := E'.t) (i := i) (by omega)
            rw [hx, ht, Option.map_some, Option.map_some, (hkk i _ _ hx ht).1]
          · rw [List.getElem?_eq_none (by omega), List.getElem?_eq_none (by omega)]; rfl
        rw [this]
      · exact (validD_iff es _ _ _).2 ⟨E', hE, by omega, hl.symm, fun i d t hd ht => (hkk i d t hd ht).2⟩
/-! ### none is less -/
theorem le_val {V : Nat → VV} (hes : ∀ e ∈ es, okE e) (hS : Sol es V) {d : DT} : ∀ {v : Nat}, validD es d (v : Int) = true → leV (V v) (val es d) := by
  induction d using DT.ind with
  | h e k ih =>
    intro v h
    obtain ⟨E, e1, e2, e3, e4⟩ := (validD_iff es _ _ _).1 h
    have hm := edge_mem e1
    have h1 := hS.closed E hm
    have e5 : E.h = v := by omega
    rw [e5] at h1
    refine leV_trans h1 ?_
    rw [val, e1]
    simp only
    rw [valL_map]
    refine comb_mono (hes E hm) (fun x hx => by obtain ⟨u, _, rfl⟩ := List.mem_map.1 hx; exact hS.ok u) (fun x hx => by obtain ⟨u, _, rfl⟩ := List.mem_map.1 hx; exact val_okP hes u) (by simp [e3]) (fun i a b ha hb => ?_)
    rw [List.getElem?_map] at ha hb
    obtain ⟨t, ht, rfl⟩ := Option.map_eq_some_iff.1 ha
    obtain ⟨d, hd, rfl⟩ := Option.map_eq_some_iff.1 hb
    exact ih d (List.mem_of_getElem? hd) (e4 i d t hd ht)
theorem ev_le_val {V : Nat → VV} (hes : ∀ e ∈ es, okE e) (hS : Sol es V) {e : Int} {E : EE} {k : List DT} (h : edge es e = some E) (hl : E.t.length = k.length) (hk : ∀ (i : Nat) d t, k[i]? = some d → E.t[i]? = some t → validD es d (t : Int) = true) : leV (ev V E) (val es (.node e k)) := by
  rw [val, h]
  simp only
  rw [valL_map]
  refine comb_mono (hes E (edge_mem h)) (fun x hx => by obtain ⟨u, _, rfl⟩ := List.mem_map.1 hx; exact hS.ok u) (fun x hx => by obtain ⟨u, _, rfl⟩ := List.mem_map.1 hx; exact val_okP hes u) (by simp [hl]) (fun i a b ha hb => ?_)
  rw [List.getElem?_map] at ha hb
  obtain ⟨t, ht, rfl⟩ := Option.map_eq_some_iff.1 ha
  obtain ⟨d, hd, rfl⟩ := Option.map_eq_some_iff.1 hb
  exact le_val hes hS (hk i d t hd ht)
theorem kid_fin (hes : ∀ e ∈ es, okE e) {e : Int} {k : List DT} (hf : (val es (.node e k)).c < INF) {d : DT} (hd : d ∈ k) : (val es d).c < INF := by
  rw [val] at hf
  cases h : edge es e with
  | none => rw [h] at hf; unfold top at hf; simp at hf
  | some E =>
    rw [h] at hf
    simp only at hf
    rw [valL_map] at hf
    exact comb_fin (hes E (edge_mem h)) (fun x hx => by obtain ⟨u, _, rfl⟩ := List.mem_map.1 hx; exact val_okP hes u) hf (List.mem_map.2 ⟨d, hd, rfl⟩)
theorem cmpL_le0 : ∀ (k l : List DT), k.length = l.length → (∀ (i : Nat) d f, k[i]? = some d → l[i]? = some f → cmpD es d f ≤ 0) → cmpL es k l ≤ 0
  | [], [], _, _ => by rw [cmpL]; omega
  | [], _ :: _, h, _ => by simp at h
  | _ :: _, [], h, _ => by simp at h
  | d :: k, f :: l, h, hh => by
    rw [cmpL]
    have h0 := hh 0 d f rfl rfl
    split
    · exact h0
    · exact cmpL_le0 k l (by simpa using h) (fun i x y hx hy => hh (i + 1) x y (by simpa using hx) (by simpa using hy))
theorem Fol.least {V : Nat → VV} (hes : ∀ e ∈ es, okE e) (hS : Sol es V) {a : DT} : ∀ {v : Nat} {d : DT}, validD es a (v : Int) = true → (val es a).c < INF → Fol V es v d → cmpD es d a ≤ 0 := by
  induction a using DT.ind with
  | h e k ih =>
    intro v d hva hf hd
    have hle := le_val hes hS hva
    have hv : (V v).c < INF := by unfold leV at hle; omega
    have hg := hd.good hes hS hv
    obtain ⟨E, e1, e2, e3, e4⟩ := (validD_iff es _ _ _).1 hva
    have hE := edge_mem e1
    cases hd with
    | mk he hl hk =>
      rename_i F l
      rw [cmpD, hg.1]
      by_cases hq : V v = val es (.node e k)
      · rw [if_neg (by rw [cmpV_zero.2 hq]; simp)]
        obtain ⟨j, E', c1, c2, c3, c4, c5⟩ := chosen_fin hes hS hv
        obtain ⟨m, rfl, hm⟩ := edge_some e1
        have hev : ev V E = V v := by
          refine leV_antisymm (hq ▸ ev_le_val hes hS e1 e3 e4) ?_
          have := hS.closed E hE
          rwa [show E.h = v by omega] at this
        have hjm : j ≤ m := by
          rcases Nat.lt_or_ge m j with h9 | h9
          · exact absurd ⟨by omega, hev⟩ (c5 m E h9 hm)
          · exact h9
        by_cases hjm2 : j = m
        · subst hjm2
          rw [hm] at c2
          obtain rfl := Option.some.inj c2
          rw [if_neg (by rw [cmpI_zero.2 c1]; simp)]
          rw [c1, e1] at he
          obtain rfl := Option.some.inj he
          refine cmpL_le0 l k (by omega) (fun i x y hx hy => ?_)
          have ht := List.getElem?_eq_getElem (l := E.t) (i := i) (by
            have := (List.getElem?_eq_some_iff.1 hy).1
            omega)
          exact ih y (List.mem_of_getElem? hy) (e4 i y _ hy ht) (kid_fin hes hf (List.mem_of_getElem? hy)) (hk i x _ hx ht)
        · rw [if_pos (by
            intro h9
            have := cmpI_zero.1 h9
            omega)]
          exact cmpI_le.2 (by omega)
      · rw [if_pos (fun h9 => hq (cmpV_zero.1 h9))]
        exact cmpV_le.2 hle
/-! ### a smaller first kid -/
theorem mono_first (hes : ∀ e ∈ es, okE e) {e : Int} {x d : DT} {k : List DT} {r : Int} (hva : validD es (.node e (x :: k)) r = true) (hxd : cmpD es d x ≤ 0) : cmpD es (.node e (d :: k)) (.node e (x :: k)) = if eqD d x = true then 0 else -1 := by
  by_cases h : d = x
  · subst h
    rw [if_pos ((eqD_iff d d).2 rfl)]; exact cmpD_refl es _
  · rw [if_neg (fun h9 => h ((eqD_iff d x).1 h9))]
    have h0 : cmpD es d x ≠ 0 := fun h9 => h (cmpD_zero es d x h9)
    have hb := cmpD_bd es d x
    obtain ⟨E, e1, e2, e3, e4⟩ := (validD_iff es _ _ _).1 hva
    have hle : leV (val es (.node e (d :: k))) (val es (.node e (x :: k))) := by
      rw [val, val, e1]
      simp only
      rw [valL_map, valL_map]
      refine comb_mono (hes E (edge_mem e1)) (fun y hy => by obtain ⟨u, _, rfl⟩ := List.mem_map.1 hy; exact val_okP hes u) (fun y hy => by obtain ⟨u, _, rfl⟩ := List.mem_map.1 hy; exact val_okP hes u) (by simp) (fun i a b ha hb2 => ?_)
      cases i with
      | zero =>
        simp at ha hb2
        subst ha hb2
        obtain ⟨f, l⟩ := d
        obtain ⟨g, m⟩ := x
        rw [cmpD] at hxd
        by_cases e5 : cmpV (val es (.node f l)) (val es (.node g m)) = 0
        · exact cmpV_le.1 (by omega)
        · rw [if_pos e5] at hxd; exact cmpV_le.1 hxd
      | succ i =>
        simp only [List.map_cons, List.getElem?_cons_succ] at ha hb2
        rw [ha] at hb2
        obtain rfl := Option.some.inj hb2
        exact leV_refl _
    rw [cmpD]
    have hV := cmpV_le.2 hle
    by_cases e5 : cmpV (val es (.node e (d :: k))) (val es (.node e (x :: k))) = 0
    · rw [if_neg (by omega), if_neg (by rw [cmpI_zero.2 rfl]; simp), cmpL, if_pos h0]
      omega
    · rw [if_pos e5]
      have := cmpV_bd (val es (.node e (d :: k))) (val es (.node e (x :: k)))
      omega
theorem valid_first {e : Int} {x d : DT} {k : List DT} {r : Int} {E : EE} {t : Nat} (he : edge es e = some E) (ht : E.t[0]? = some t) (hva : validD es (.node e (x :: k)) r = true) (hd : validD es d (t : Int) = true) : validD es (.node e (d :: k)) r = true := by
  obtain ⟨E', e1, e2, e3, e4⟩ := (validD_iff es _ _ _).1 hva
  rw [he] at e1
  obtain rfl := Option.some.inj e1
  refine (validD_iff es _ _ _).2 ⟨E, he, e2, by simpa using e3, fun i y u hy hu => ?_⟩
  cases i with
  | zero =>
    simp at hy
    subst hy
    rw [ht] at hu
    obtain rfl := Option.some.inj hu
    exact hd
  | succ i => exact e4 (i + 1) y u (by simpa using hy) hu
/-- the values of the nodes beyond the last are top -/
theorem Sol.beyond {V : Nat → VV} (hes : ∀ e ∈ es, okE e) (hS : Sol es V) {N : Nat} (hh : ∀ e ∈ es, e.h < N) {i : Nat} (hi : N ≤ i) : V i = top := by
  rcases hS.attained hes i with h | ⟨e, he, h1, _⟩
  · exact h
  · have := hh e he; omega
end
end Go.Proofs.PK
