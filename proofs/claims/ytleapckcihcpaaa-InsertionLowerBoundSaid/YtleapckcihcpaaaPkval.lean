/-
  Values of derivations as plain mathematics: their order, what a hyperedge makes of them, and why least values are unique.
-/
namespace Go.Proofs.PK
def INF : Int := 1099511627776
structure VV where
  c : Int
  s : Int
deriving DecidableEq
def top : VV := ⟨INF, 0⟩
def ltV (a b : VV) : Bool := decide (a.c < b.c) || (decide (a.c = b.c) && decide (a.s < b.s))
def leV (a b : VV) : Prop := a.c < b.c ∨ (a.c = b.c ∧ a.s ≤ b.s)
/-- a value as it may occur -/
def okV (v : VV) : Prop := 0 ≤ v.c ∧ v.c ≤ INF ∧ 0 ≤ v.s ∧ v.s ≤ INF ∧ (v.c = INF → v.s = 0)
theorem okV_top : okV top := by unfold okV top INF; simp
theorem leV_refl (a : VV) : leV a a := .inr ⟨rfl, Int.le_refl _⟩
theorem leV_trans {a b c : VV} (h : leV a b) (k : leV b c) : leV a c := by
  unfold leV at *; omega
theorem leV_antisymm {a b : VV} (h : leV a b) (k : leV b a) : a = b := by
  cases a; cases b; unfold leV at *; simp only at *; congr 1 <;> omega
theorem leV_of_not_lt {a b : VV} (h : ltV b a = false) : leV a b := by
  unfold ltV at h; unfold leV
  simp only [Bool.or_eq_false_iff, Bool.and_eq_false_iff, decide_eq_false_iff_not] at h
  omega
theorem not_lt_of_leV {a b : VV} (h : leV a b) : ltV b a = false := by
  unfold leV at h; unfold ltV
  simp only [Bool.or_eq_false_iff, Bool.and_eq_false_iff, decide_eq_false_iff_not]
  omega
theorem leV_of_lt {a b : VV} (h : ltV a b = true) : leV a b := by
  unfold ltV at h; unfold leV
  simp only [Bool.or_eq_true, Bool.and_eq_true, decide_eq_true_eq] at h
  omega
theorem leV_total (a b : VV) : leV a b ∨ leV b a := by unfold leV; omega
theorem leV_top {a : VV} (h : okV a) : leV a top := by
  obtain ⟨h1, h2, h3, h4, h5⟩ := h
  unfold leV top INF at *
  simp only
  by_cases e : a.c = 1099511627776
  · exact .inr ⟨e, by rw [h5 e]; exact Int.le_refl _⟩
  · exact .inl (by omega)
/-- what a hyperedge makes of the values of its tails -/
def combG (p : Int × Int) (v : VV) : Int × Int := (min (p.1 + v.c) INF, min (p.2 + v.s) INF)
def comb (cost : Int) (l : List VV) : VV := if INF ≤ (l.foldl combG (cost, 1)).1 then top else ⟨(l.foldl combG (cost, 1)).1, (l.foldl combG (cost, 1)).2⟩
theorem fold_bd : ∀ (l : List VV) (p : Int × Int), (∀ v ∈ l, okV v) → 0 ≤ p.1 → p.1 ≤ INF → 1 ≤ p.2 → p.2 ≤ INF →
    p.1 ≤ (l.foldl combG p).1 ∧ (l.foldl combG p).1 ≤ INF ∧ p.2 ≤ (l.foldl combG p).2 ∧ (l.foldl combG p).2 ≤ INF
  | [], p, _, h1, h2, h3, h4 => ⟨Int.le_refl _, h2, Int.le_refl _, h4⟩
  | v :: l, p, hl, h1, h2, h3, h4 => by
    obtain ⟨k1, k2, k3, k4, _⟩ := hl v (by simp)
    have hi : (1 : Int) ≤ INF := by unfold INF; decide
    rw [List.foldl_cons]
    have := fold_bd l (combG p v) (fun x hx => hl x (by simp [hx])) (by unfold combG; simp only; omega) (by unfold combG; simp only; omega) (by unfold combG; simp only; omega) (by unfold combG; simp only; omega)
    have e1 : p.1 ≤ (combG p v).1 := by unfold combG; simp only; omega
    have e2 : p.2 ≤ (combG p v).2 := by unfold combG; simp only; omega
    omega
theorem comb_ok {cost : Int} {l : List VV} (hc : 0 ≤ cost ∧ cost ≤ INF) (hl : ∀ v ∈ l, okV v) : okV (comb cost l) := by
  have := fold_bd l (cost, 1) hl hc.1 hc.2 (by simp) (show (1 : Int) ≤ INF by unfold INF; decide)
  simp only at this
  unfold comb
  split
  · exact okV_top
  · exact ⟨by simp only; omega, by simp only; omega, by simp only; omega, by simp only; omega, fun h => by simp only at h; omega⟩
/-- combining is monotone -/
theorem fold_mono : ∀ (l k : List VV) (p q : Int × Int), (∀ v ∈ l, okV v) → (∀ v ∈ k, okV v) → l.length = k.length → (∀ (i : Nat) (a b : VV), l[i]? = some a → k[i]? = some b → leV a b) →
    (p.1 < q.1 ∨ (p.1 = q.1 ∧ p.2 ≤ q.2) ∨ INF ≤ q.1) → 0 ≤ p.1 → p.1 ≤ INF → 0 ≤ q.1 → q.1 ≤ INF →
    ((l.foldl combG p).1 < (k.foldl combG q).1 ∨ ((l.foldl combG p).1 = (k.foldl combG q).1 ∧ (l.foldl combG p).2 ≤ (k.foldl combG q).2) ∨ INF ≤ (k.foldl combG q).1)
  | [], [], p, q, _, _, _, _, h, _, _, _, _ => h
  | [], _ :: _, _, _, _, _, h, _, _, _, _, _, _ => by simp at h
  | _ :: _, [], _, _, _, _, h, _, _, _, _, _, _ => by simp at h
  | a :: l, b :: k, p, q, hl, hk, hlen, hle, h, hp0, hp, hq0, hq => by
    rw [List.foldl_cons, List.foldl_cons]
    obtain ⟨a1, a2, a3, a4, _⟩ := hl a (by simp)
    obtain ⟨b1, b2, b3, b4, _⟩ := hk b (by simp)
    have hab := hle 0 a b rfl rfl
    refine fold_mono l k _ _ (fun x hx => hl x (by simp [hx])) (fun x hx => hk x (by simp [hx])) (by simpa using hlen) (fun i x y hx hy => hle (i + 1) x y hx hy) ?_ (by unfold combG; simp only; omega) (by unfold combG; simp only; omega) (by unfold combG; simp only; omega) (by unfold combG; simp only; omega)
    unfold combG leV at *
    simp only
    omega
theorem comb_mono {cost : Int} {l k : List VV} (hc : 0 ≤ cost ∧ cost ≤ INF) (hl : ∀ v ∈ l, okV v) (hk : ∀ v ∈ k, okV v) (hlen : l.length = k.length) (hle : ∀ (i : Nat) (a b : VV), l[i]? = some a → k[i]? = some b → leV a b) :
    leV (comb cost l) (comb cost k) := by
  have hm := fold_mono l k (cost, 1) (cost, 1) hl hk hlen hle (.inr (.inl ⟨rfl, Int.le_refl _⟩)) hc.1 hc.2 hc.1 hc.2
  have b1 := fold_bd l (cost, 1) hl hc.1 hc.2 (by simp) (show (1 : Int) ≤ INF by unfold INF; decide)
  have b2 := fold_bd k (cost, 1) hk hc.1 hc.2 (by simp) (show (1 : Int) ≤ INF by unfold INF; decide)
  have hok := comb_ok hc hl
  by_cases e : INF ≤ (k.foldl combG (cost, 1)).1
  · have : comb cost k = top := by unfold comb; rw [if_pos e]
    rw [this]; exact leV_top hok
  · have e2 : ¬ INF ≤ (l.foldl combG (cost, 1)).1 := by omega
    unfold comb
    rw [if_neg e, if_neg e2]
    unfold leV
    simp only
    omega
/-- a hyperedge's value is no less than that of any of its tails -/
theorem fold_sup : ∀ (l : List VV) (p : Int × Int), (∀ v ∈ l, okV v) → 0 ≤ p.1 → p.1 ≤ INF → 1 ≤ p.2 → p.2 ≤ INF → ∀ v ∈ l, v.c ≤ (l.foldl combG p).1 ∧ v.s ≤ (l.foldl combG p).2
  | [], _, _, _, _, _, _, v, h => by simp at h
  | x :: l, p, hl, h1, h2, h3, h4, v, h => by
    rw [List.foldl_cons]
    obtain ⟨k1, k2, k3, k4, _⟩ := hl x (by simp)
    have hi : (1 : Int) ≤ INF := by unfold INF; decide
    have hb1 : 0 ≤ (combG p x).1 := by unfold combG; simp only; omega
    have hb2 : (combG p x).1 ≤ INF := by unfold combG; simp only; omega
    have hb3 : 1 ≤ (combG p x).2 := by unfold combG; simp only; omega
    have hb4 : (combG p x).2 ≤ INF := by unfold combG; simp only; omega
    rcases List.mem_cons.1 h with rfl | h
    · have := fold_bd l (combG p v) (fun y hy => hl y (by simp [hy])) hb1 hb2 hb3 hb4
      have e1 : v.c ≤ (combG p v).1 := by unfold combG; simp only; omega
      have e2 : v.s ≤ (combG p v).2 := by unfold combG; simp only; omega
      omega
    · exact fold_sup l _ (fun y hy => hl y (by simp [hy])) hb1 hb2 hb3 hb4 v h
theorem comb_sup {cost : Int} {l : List VV} (hc : 0 ≤ cost ∧ cost ≤ INF) (hl : ∀ v ∈ l, okV v) {v : VV} (hv : v ∈ l) : leV v (comb cost l) := by
  have hs := fold_sup l (cost, 1) hl hc.1 hc.2 (by simp) (show (1 : Int) ≤ INF by unfold INF; decide) v hv
  unfold comb
  split
  · exact leV_top (hl v hv)
  · unfold leV; simp only; omega
theorem comb_top {cost : Int} {l : List VV} (hc : 0 ≤ cost ∧ cost ≤ INF) (hl : ∀ v ∈ l, okV v) (h : top ∈ l) : comb cost l = top := by
  have hs := fold_sup l (cost, 1) hl hc.1 hc.2 (by simp) (show (1 : Int) ≤ INF by unfold INF; decide) top h
  unfold comb
  rw [if_pos (by unfold top at hs; exact hs.1)]
/-! ### least values -/
section
/-- a hyperedge: head, tails, cost -/
structure EE where
  h : Nat
  t : List Nat
  c : Int
variable (es : List EE)
def ev (V : Nat → VV) (e : EE) : VV := comb e.c (e.t.map V)
def okE (e : EE) : Prop := 0 ≤ e.c ∧ e.c ≤ INF
/-- no hyperedge offers less -/
def Closed (V : Nat → VV) : Prop := ∀ e ∈ es, leV (V e.h) (ev V e)
theorem ev_mono {V K : Nat → VV} {e : EE} (he : okE e) (hV : ∀ v, okV (V v)) (hK : ∀ v, okV (K v)) (h : ∀ t ∈ e.t, leV (V t) (K t)) : leV (ev V e) (ev K e) := by
  refine comb_mono he ?_ ?_ (by simp) ?_
  · intro v hv; obtain ⟨t, _, rfl⟩ := List.mem_map.1 hv; exact hV t
  · intro v hv; obtain ⟨t, _, rfl⟩ := List.mem_map.1 hv; exact hK t
  · intro i a b ha hb
    rw [List.getElem?_map] at ha hb
    obtain ⟨t, ht, rfl⟩ := Option.map_eq_some_iff.1 ha
    rw [ht] at hb
    obtain rfl := Option.some.inj hb
    exact h t (List.mem_of_getElem? ht)
/-- reached: a node's value, by a hyperedge whose tails were reached before -/
inductive Reached (K : Nat → VV) : Nat → Prop
  | by (e : EE) (he : e ∈ es) (ht : ∀ t ∈ e.t, Reached K t) (hv : K e.h = ev K e) : Reached K e.h
theorem closed_le {V K : Nat → VV} (hes : ∀ e ∈ es, okE e) (hV : ∀ v, okV (V v)) (hK : ∀ v, okV (K v)) (hc : Closed es V) (hr : ∀ v, K v = top ∨ Reached es K v) (v : Nat) : leV (V v) (K v) := by
  rcases hr v with h | h
  · rw [h]; exact leV_top (hV v)
  · induction h with
    | «by» e he ht hv ih =>
      rw [hv]
      exact leV_trans (hc e he) (ev_mono (hes e he) hV hK ih)
/-- least values are unique -/
theorem least_unique {V K : Nat → VV} (hes : ∀ e ∈ es, okE e) (hV : ∀ v, okV (V v)) (hK : ∀ v, okV (K v)) (hc : Closed es V) (hr : ∀ v, K v = top ∨ Reached es K v) (hge : ∀ W : Nat → VV, (∀ v, okV (W v)) → Closed es W → ∀ v, leV (W v) (V v)) (hck : Closed es K) : V = K := by
  funext v
  exact leV_antisymm (closed_le es hes hV hK hc hr v) (hge K hK hck v)
/-- one more offer is taken: above every closed function still -/
theorem above_step {V W : Nat → VV} (hes : ∀ e ∈ es, okE e) (hV : ∀ v, okV (V v)) (hW : ∀ v, okV (W v)) (hc : Closed es W) (h : ∀ v, leV (W v) (V v)) {e : EE} (he : e ∈ es) (v : Nat) : leV (W v) (if v = e.h then ev V e else V v) := by
  split
  · rename_i e1; subst e1
    exact leV_trans (hc e he) (ev_mono (hes e he) hW hV (fun t _ => h t))
  · exact h v
end
end Go.Proofs.PK
