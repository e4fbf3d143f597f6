/-
  The reference's way of counting least derivations, as plain mathematics.
-/
import Derived.Test.YtoiffhoiklafhaaBK
namespace Go.Proofs.Ytoiffhoiklafhaa
open PK
theorem tail_c : ∀ (l : List VV) (p : Int × Int), (∀ v ∈ l, okV v) → 0 ≤ p.1 → p.1 ≤ INF → 1 ≤ p.2 → p.2 ≤ INF → ∀ v ∈ l, v.c ≤ (l.foldl combG p).1
  | [], _, _, _, _, _, _, v, hv => by simp at hv
  | a :: l, p, hl, h1, h2, h3, h4, v, hv => by
    obtain ⟨k1, k2, k3, k4, _⟩ := hl a (by simp)
    have hi : (1 : Int) ≤ INF := by unfold INF; decide
    rw [List.foldl_cons]
    have hq1 : 0 ≤ (combG p a).1 := by unfold combG; simp only; omega
    have hq2 : (combG p a).1 ≤ INF := by unfold combG; simp only; omega
    have hq3 : 1 ≤ (combG p a).2 := by unfold combG; simp only; omega
    have hq4 : (combG p a).2 ≤ INF := by unfold combG; simp only; omega
    rcases List.mem_cons.1 hv with rfl | hv
    · have hb := (fold_bd l (combG p v) (fun x hx => hl x (by simp [hx])) hq1 hq2 hq3 hq4).1
      refine Int.le_trans ?_ hb
      unfold combG; simp only; omega
    · exact tail_c l (combG p a) (fun x hx => hl x (by simp [hx])) hq1 hq2 hq3 hq4 v hv
/-- the tails of a tight hyperedge are less than its head -/
theorem tgt_less {V : Nat → VV} {e : EI} (hV : ∀ v, okV (V v)) (hs : ∀ v, (V v).s < INF) (hc : 0 ≤ e.c ∧ e.c ≤ INF) (h : tgt V e = true) {t : Int} (ht : t ∈ e.t) : ltV (V t.toNat) (V e.h.toNat) = true := by
  have h0 := tgt_tail hV (hs _) h ht
  simp only [tgt, Bool.and_eq_true, decide_eq_true_eq] at h
  obtain ⟨h1, h2⟩ := h
  have hl : ∀ v ∈ (toEE e).t.map V, okV v := fun v hv => by
    obtain ⟨x, _, rfl⟩ := List.mem_map.1 hv
    exact hV x
  have hm : V t.toNat ∈ (toEE e).t.map V := List.mem_map.2 ⟨t.toNat, List.mem_map.2 ⟨t, ht, rfl⟩, rfl⟩
  have hle : (V t.toNat).c ≤ (V e.h.toNat).c := by
    have h3 := tail_c _ ((toEE e).c, 1) hl hc.1 hc.2 (show (1 : Int) ≤ 1 by decide) (show (1 : Int) ≤ INF by decide) _ hm
    unfold ev comb at h2
    split at h2
    · rw [← h2] at h1
      exact absurd h1 (by unfold top; simp)
    · rw [← h2]; exact h3
  unfold ltV
  simp only [Bool.or_eq_true, Bool.and_eq_true, decide_eq_true_eq]
  omega
/-- k nodes are done -/
structure CI (V : Nat → VV) (es : List EI) (N k : Nat) (D : Nat → Bool) (C : Nat → Int) : Prop where
  nf : nF N D + k = N
  dn : ∀ v, v < N → D v = true → C v = cnt V es v
  un : ∀ v, v < N → D v = false → C v = 0
  lt : ∀ u v, u < N → v < N → D v = true → D u = false → ltV (V u) (V v) = false
theorem CI.start (V : Nat → VV) (es : List EI) (N : Nat) : CI V es N 0 (fun _ => false) (fun _ => 0) := by
  refine ⟨?_, fun v _ h => (by cases h), fun v _ _ => rfl, fun u v _ _ h => (by cases h)⟩
  unfold nF
  have : (List.range N).filter (fun _ => !false) = List.range N := List.filter_eq_self.2 (fun _ _ => rfl)
  rw [this]; simp
/-- the least of those that are not done, of the first j -/
def NX (V : Nat → VV) (D : Nat → Bool) (j : Nat) : Option Nat → Prop
  | none => ∀ u, u < j → D u = true
  | some q => q < j ∧ D q = false ∧ ∀ u, u < j → D u = false → ltV (V u) (V q) = false
theorem NX.skip {V : Nat → VV} {D : Nat → Bool} {j : Nat} {x : Option Nat} (h : NX V D j x) (hd : D j = true) : NX V D (j + 1) x := by
  cases x with
  | none =>
    intro u hu
    by_cases e : u = j
    · subst e; exact hd
    · exact h u (by omega)
  | some q =>
    refine ⟨by have := h.1; omega, h.2.1, fun u hu hdu => ?_⟩
    by_cases e : u = j
    · subst e; rw [hd] at hdu; cases hdu
    · exact h.2.2 u (by omega) hdu
theorem ltV_irr (a : VV) : ltV a a = false := by unfold ltV; simp
theorem ltV_tr {a b c : VV} (h1 : ltV b a = false) (h2 : ltV c b = false) : ltV c a = false := by
  unfold ltV at *
  simp only [Bool.or_eq_false_iff, Bool.and_eq_false_iff, decide_eq_false_iff_not] at *
  omega
theorem ltV_as {a b : VV} (h : ltV a b = true) : ltV b a = false := by
  unfold ltV at *
  simp only [Bool.or_eq_true, Bool.and_eq_true, decide_eq_true_eq, Bool.or_eq_false_iff, Bool.and_eq_false_iff, decide_eq_false_iff_not] at *
  omega
theorem NX.first {V : Nat → VV} {D : Nat → Bool} {j : Nat} (h : NX V D j none) (hd : D j = false) : NX V D (j + 1) (some j) := by
  refine ⟨by omega, hd, fun u hu hdu => ?_⟩
  by_cases e : u = j
  · subst e; exact ltV_irr _
  · have := h u (by omega); rw [this] at hdu; cases hdu
theorem NX.keep {V : Nat → VV} {D : Nat → Bool} {j q : Nat} (h : NX V D j (some q)) (hl : ltV (V j) (V q) = false) : NX V D (j + 1) (some q) := by
  refine ⟨by have := h.1; omega, h.2.1, fun u hu hdu => ?_⟩
  by_cases e : u = j
  · subst e; exact hl
  · exact h.2.2 u (by omega) hdu
theorem NX.take {V : Nat → VV} {D : Nat → Bool} {j q : Nat} (h : NX V D j (some q)) (hd : D j = false) (hl : ltV (V j) (V q) = true) : NX V D (j + 1) (some j) := by
  refine ⟨by omega, hd, fun u hu hdu => ?_⟩
  by_cases e : u = j
  · subst e; exact ltV_irr _
  · exact ltV_tr (ltV_as hl) (h.2.2 u (by omega) hdu)
theorem NX.some_of {V : Nat → VV} {es : List EI} {N k : Nat} {D : Nat → Bool} {C : Nat → Int} {x : Option Nat} (h : NX V D N x) (hc : CI V es N k D C) (hk : k < N) : ∃ q, x = some q := by
  cases x with
  | some q => exact ⟨q, rfl⟩
  | none =>
    exfalso
    obtain ⟨v, hv, hd⟩ := undone (N := N) (D := D) (by have := hc.nf; omega)
    have := h v hv
    rw [this] at hd
    cases hd
/-- the sum of a node, as far as the first j hyperedges -/
def cntJ (V : Nat → VV) (es : List EI) (q j : Nat) : Int := ((es.take j).filter (fun e => decide (e.h.toNat = q) && tgt V e)).foldl (fun s e => plusF s (cntE (cnt V es) e)) 0
theorem cntJ_succ {V : Nat → VV} {es : List EI} {q j : Nat} {e : EI} (h : es[j]? = some e) : cntJ V es q (j + 1) = if (decide (e.h.toNat = q) && tgt V e) = true then plusF (cntJ V es q j) (cntE (cnt V es) e) else cntJ V es q j := by
  unfold cntJ
  rw [filt_succ h]
  split
  · rw [List.foldl_append]; rfl
  · rfl
theorem cntS_bd (V : Nat → VV) (es : List EI) : ∀ (f v : Nat), 0 ≤ cntS V es f v ∧ cntS V es f v ≤ 1099511627776
  | 0, v => by unfold cntS; decide
  | f + 1, v => by
    unfold cntS cntN
    exact sum_bd (cntS_bd V es f) _ 0 (by decide)
theorem cnt_bd (V : Nat → VV) (es : List EI) (v : Nat) : 0 ≤ cnt V es v ∧ cnt V es v ≤ 1099511627776 := cntS_bd V es _ v
theorem cntJ_bd (V : Nat → VV) (es : List EI) (q j : Nat) : 0 ≤ cntJ V es q j ∧ cntJ V es q j ≤ 1099511627776 := sum_bd (cnt_bd V es) _ 0 (by decide)
/-- the product of the first k tails -/
def cntK (V : Nat → VV) (es : List EI) (t : List Int) (k : Nat) : Int := ((t.take k).map Int.toNat).foldl (fun a x => mulF a (cnt V es x)) 1
theorem cntK_bd (V : Nat → VV) (es : List EI) (t : List Int) (k : Nat) : 0 ≤ cntK V es t k ∧ cntK V es t k ≤ 1099511627776 := by
  unfold cntK
  have : ∀ (l : List Nat) (a : Int), 0 ≤ a ∧ a ≤ 1099511627776 → 0 ≤ l.foldl (fun a x => mulF a (cnt V es x)) a ∧ l.foldl (fun a x => mulF a (cnt V es x)) a ≤ 1099511627776 := by
    intro l
    induction l with
    | nil => exact fun _ h => h
    | cons t l ih => exact fun a h => ih _ (mulF_bd h.1 (cnt_bd V es t).1)
  exact this _ _ (by decide)
theorem cntK_succ {V : Nat → VV} {es : List EI} {t : List Int} {k : Nat} {x : Int} (h : t[k]? = some x) : cntK V es t (k + 1) = mulF (cntK V es t k) (cnt V es x.toNat) := by
  unfold cntK
  rw [List.take_add_one, h, Option.toList_some, List.map_append, List.foldl_append]
  rfl
theorem CI.step {V : Nat → VV} {es : List EI} {N k q : Nat} {D : Nat → Bool} {C : Nat → Int} (hV : ∀ v, okV (V v)) (hs : ∀ v, (V v).s < INF) (hc : CI V es N k D C) (hq : q < N) (hn : NX V D N (some q)) : CI V es N (k + 1) (upd D q true) (upd C q (cntJ V es q es.length)) := by
  have h1 := nF_upd N q D hq hn.2.1
  refine ⟨by have := hc.nf; omega, fun v hv hd => ?_, fun v hv hd => ?_, fun u v hu hv hdv hdu => ?_⟩
  · by_cases e : v = q
    · subst e
      rw [upd_same]
      unfold cntJ
      rw [List.take_of_length_le (Nat.le_refl _)]
      exact (cnt_eq hV hs v).symm
    · rw [upd_other _ _ _ _ e] at hd ⊢
      exact hc.dn v hv hd
  · by_cases e : v = q
    · subst e; rw [upd_same] at hd; cases hd
    · rw [upd_other _ _ _ _ e] at hd ⊢
      exact hc.un v hv hd
  · have huq : u ≠ q := fun e => by subst e; rw [upd_same] at hdu; cases hdu
    rw [upd_other _ _ _ _ huq] at hdu
    by_cases e : v = q
    · subst e; exact hn.2.2 u hu hdu
    · rw [upd_other _ _ _ _ e] at hdv
      exact hc.lt u v hu hv hdv hdu
/-- the tails of a tight hyperedge of the node that comes next are done -/
theorem CI.tail {V : Nat → VV} {es : List EI} {N k q : Nat} {D : Nat → Bool} {C : Nat → Int} (hV : ∀ v, okV (V v)) (hs : ∀ v, (V v).s < INF) (hc : CI V es N k D C) (hn : NX V D N (some q)) {e : EI} (hec : 0 ≤ e.c ∧ e.c ≤ INF) (hh : e.h.toNat = q) (ht : tgt V e = true) {t : Int} (hm : t ∈ e.t) (htN : t.toNat < N) : t.toNat ≠ q ∧ C t.toNat = cnt V es t.toNat := by
  have h1 := tgt_less hV hs hec ht hm
  rw [hh] at h1
  cases hd : D t.toNat with
  | true => exact ⟨fun e => (by rw [e, hn.2.1] at hd; cases hd), hc.dn _ htN hd⟩
  | false =>
    have := hn.2.2 _ htN hd
    rw [this] at h1
    cases h1
end Go.Proofs.Ytoiffhoiklafhaa
