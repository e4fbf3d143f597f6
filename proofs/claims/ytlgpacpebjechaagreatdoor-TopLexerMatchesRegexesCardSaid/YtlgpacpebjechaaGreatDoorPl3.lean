/-
  The automaton finds what the four expressions match: plain mathematics.
-/
import Derived.Test.YtlgpacpebjechaaGreatDoorPda
import Derived.Test.YtlgpacpebjechaaGreatDoorPlex
import Derived.KernelRfl
namespace Go.Proofs.YtlgpacpebjechaaGreatDoor
open PLX
def clsF (b : Nat) : Nat := cT.getD b 0
def nxtF (q c : Nat) : Int := (xT.getD q []).getD c (-1)
def accF (q : Nat) : Int := aT.getD q (-1)
/-- the automaton -/
def AU0 : AU := ⟨fun q b => if 0 ≤ nxtF q (clsF b) then some (nxtF q (clsF b)).toNat else none, fun q => if 0 ≤ accF q then some (accF q).toNat else none⟩
/-- expression i behind the bytes r -/
def dl (i : Nat) (r : List Nat) : Nat := r.foldl dlt i
/-- expression k matches the bytes r -/
def mt (k : Nat) (r : List Nat) : Bool := nul (dl (sta k) r)
abbrev T4 := Nat × Nat × Nat × Nat
def d4 (t : T4) (b : Nat) : T4 := (dlt t.1 b, dlt t.2.1 b, dlt t.2.2.1 b, dlt t.2.2.2 b)
def n4 (t : T4) : Option Nat := if nul t.1 then some 0 else if nul t.2.1 then some 1 else if nul t.2.2.1 then some 2 else if nul t.2.2.2 then some 3 else none
def s4 : T4 := (sta 0, sta 1, sta 2, sta 3)
theorem live_ok : (bT.all fun t => (List.range 256).all fun b => match AU0.nx t.1 b with | some q => bT.contains (q, d4 t.2 b) | none => eT.contains (d4 t.2 b)) = true := by kernel_rfl
theorem dead_ok : (eT.all fun t => (List.range 256).all fun b => eT.contains (d4 t b)) = true := by kernel_rfl
theorem dead_no : (eT.all fun t => n4 t == none) = true := by kernel_rfl
theorem acc_ok : (bT.all fun t => AU0.ac t.1 == n4 t.2) = true := by kernel_rfl
theorem start_ok : bT.contains (0, s4) = true := by kernel_rfl
theorem live_step {q b : Nat} {t : T4} (h : (q, t) ∈ bT) (hb : b < 256) : match AU0.nx q b with | some q' => (q', d4 t b) ∈ bT | none => d4 t b ∈ eT := by
  have := List.all_eq_true.1 (List.all_eq_true.1 live_ok _ h) b (List.mem_range.2 hb)
  dsimp only at this
  cases hq : AU0.nx q b with
  | none => rw [hq] at this; exact List.contains_iff_mem.1 this
  | some q' => rw [hq] at this; exact List.contains_iff_mem.1 this
theorem dead_step {b : Nat} {t : T4} (h : t ∈ eT) (hb : b < 256) : d4 t b ∈ eT :=
  List.contains_iff_mem.1 (List.all_eq_true.1 (List.all_eq_true.1 dead_ok _ h) b (List.mem_range.2 hb))
/-- the first that matches -/
def fst4 (r : List Nat) : Option Nat := n4 (dl (sta 0) r, dl (sta 1) r, dl (sta 2) r, dl (sta 3) r)
abbrev t4 (r : List Nat) : T4 := (dl (sta 0) r, dl (sta 1) r, dl (sta 2) r, dl (sta 3) r)
theorem dl_snoc (i : Nat) (r : List Nat) (b : Nat) : dl i (r ++ [b]) = dlt (dl i r) b := by unfold dl; rw [List.foldl_append]; rfl
theorem t4_snoc (r : List Nat) (b : Nat) : t4 (r ++ [b]) = d4 (t4 r) b := by
  simp only [t4, d4, dl_snoc]
theorem fst4_some {r : List Nat} {k : Nat} (h : fst4 r = some k) : k < 4 ∧ mt k r = true ∧ ∀ j, j < k → mt j r = false := by
  unfold fst4 n4 at h
  dsimp only at h
  by_cases h0 : nul (dl (sta 0) r) = true
  · rw [if_pos h0] at h; injection h with h; subst h
    exact ⟨by omega, h0, fun j hj => by omega⟩
  · rw [if_neg h0] at h
    by_cases h1 : nul (dl (sta 1) r) = true
    · rw [if_pos h1] at h; injection h with h; subst h
      exact ⟨by omega, h1, fun j hj => by obtain rfl : j = 0 := by omega
                                          exact Bool.eq_false_iff.2 h0⟩
    · rw [if_neg h1] at h
      by_cases h2 : nul (dl (sta 2) r) = true
      · rw [if_pos h2] at h; injection h with h; subst h
        refine ⟨by omega, h2, fun j hj => ?_⟩
        rcases (by omega : j = 0 ∨ j = 1) with rfl | rfl
        · exact Bool.eq_false_iff.2 h0
        · exact Bool.eq_false_iff.2 h1
      · rw [if_neg h2] at h
        by_cases h3 : nul (dl (sta 3) r) = true
        · rw [if_pos h3] at h; injection h with h; subst h
          refine ⟨by omega, h3, fun j hj => ?_⟩
          rcases (by omega : j = 0 ∨ j = 1 ∨ j = 2) with rfl | rfl | rfl
          · exact Bool.eq_false_iff.2 h0
          · exact Bool.eq_false_iff.2 h1
          · exact Bool.eq_false_iff.2 h2
        · rw [if_neg h3] at h; cases h
theorem fst4_none {r : List Nat} (h : fst4 r = none) : ∀ k, k < 4 → mt k r = false := by
  unfold fst4 n4 at h
  dsimp only at h
  by_cases h0 : nul (dl (sta 0) r) = true
  · rw [if_pos h0] at h; cases h
  · rw [if_neg h0] at h
    by_cases h1 : nul (dl (sta 1) r) = true
    · rw [if_pos h1] at h; cases h
    · rw [if_neg h1] at h
      by_cases h2 : nul (dl (sta 2) r) = true
      · rw [if_pos h2] at h; cases h
      · rw [if_neg h2] at h
        by_cases h3 : nul (dl (sta 3) r) = true
        · rw [if_pos h3] at h; cases h
        · intro k hk
          rcases (by omega : k = 0 ∨ k = 1 ∨ k = 2 ∨ k = 3) with rfl | rfl | rfl | rfl
          · exact Bool.eq_false_iff.2 h0
          · exact Bool.eq_false_iff.2 h1
          · exact Bool.eq_false_iff.2 h2
          · exact Bool.eq_false_iff.2 h3
/-- of the pairs (k, e) in P: the longest match, the first of such -/
def Best (r : List Nat) (P : Nat → Nat → Prop) (kind : Int) (n : Nat) : Prop :=
  (kind = -1 ∧ n = 1 ∧ ∀ k e, P k e → mt k (r.take e) = false) ∨
  (∃ k0 : Nat, kind = k0 ∧ P k0 n ∧ mt k0 (r.take n) = true ∧ ∀ k e, P k e → mt k (r.take e) = true → e < n ∨ (e = n ∧ k0 ≤ k))
theorem Best.unique {r : List Nat} {P : Nat → Nat → Prop} {k1 k2 : Int} {n1 n2 : Nat} (h1 : Best r P k1 n1) (h2 : Best r P k2 n2) : k1 = k2 ∧ n1 = n2 := by
  rcases h1 with ⟨a1, a2, a3⟩ | ⟨a0, a1, a2, a3, a4⟩ <;> rcases h2 with ⟨b1, b2, b3⟩ | ⟨b0, b1, b2, b3, b4⟩
  · exact ⟨by omega, by omega⟩
  · rw [a3 _ _ b2] at b3; cases b3
  · rw [b3 _ _ a2] at a3; cases a3
  · have h3 := a4 _ _ b2 b3
    have h4 := b4 _ _ a2 a3
    omega
theorem Best.start (r : List Nat) : Best r (fun _ _ => False) (-1) 1 := .inl ⟨rfl, rfl, fun _ _ h => h.elim⟩
theorem Best.congr {r : List Nat} {P P' : Nat → Nat → Prop} {k : Int} {n : Nat} (h : Best r P k n) (hP : ∀ a b, P a b ↔ P' a b) : Best r P' k n := by
  have : P = P' := by funext a b; exact propext (hP a b)
  rw [← this]; exact h
/-- one more pair: the law's loop -/
theorem Best.more {r : List Nat} {P : Nat → Nat → Prop} {kind : Int} {n k e : Nat} (h : Best r P kind n) (he : 1 ≤ e) (hlast : ∀ k' e', P k' e' → k' ≤ k) :
    Best r (fun a b => P a b ∨ (a = k ∧ b = e)) (if mt k (r.take e) = true ∧ (n < e ∨ e = n ∧ kind < 0) then (k : Int) else kind) (if mt k (r.take e) = true ∧ (n < e ∨ e = n ∧ kind < 0) then e else n) := by
  by_cases hm : mt k (r.take e) = true
  · by_cases hc : n < e ∨ e = n ∧ kind < 0
    · rw [if_pos ⟨hm, hc⟩, if_pos ⟨hm, hc⟩]
      refine .inr ⟨k, rfl, .inr ⟨rfl, rfl⟩, hm, fun k' e' hP hm' => ?_⟩
      rcases hP with hP | ⟨rfl, rfl⟩
      · rcases h with ⟨_, _, h3⟩ | ⟨k0, h1, h2, h3, h4⟩
        · rw [h3 _ _ hP] at hm'; cases hm'
        · have := h4 _ _ hP hm'
          omega
      · exact .inr ⟨rfl, Nat.le_refl _⟩
    · rw [if_neg (fun h => hc h.2), if_neg (fun h => hc h.2)]
      rcases h with ⟨h1, h2, h3⟩ | ⟨k0, h1, h2, h3, h4⟩
      · exfalso; apply hc; omega
      · refine .inr ⟨k0, h1, .inl h2, h3, fun k' e' hP hm' => ?_⟩
        rcases hP with hP | ⟨rfl, rfl⟩
        · exact h4 _ _ hP hm'
        · have := hlast _ _ h2
          omega
  · rw [if_neg (fun h => hm h.1), if_neg (fun h => hm h.1)]
    rcases h with ⟨h1, h2, h3⟩ | ⟨k0, h1, h2, h3, h4⟩
    · refine .inl ⟨h1, h2, fun k' e' hP => ?_⟩
      rcases hP with hP | ⟨rfl, rfl⟩
      · exact h3 _ _ hP
      · exact Bool.eq_false_iff.2 hm
    · refine .inr ⟨k0, h1, .inl h2, h3, fun k' e' hP hm' => ?_⟩
      rcases hP with hP | ⟨rfl, rfl⟩
      · exact h4 _ _ hP hm'
      · exact absurd hm' hm
abbrev upto (n : Nat) : Nat → Nat → Prop := fun k e => k < 4 ∧ 1 ≤ e ∧ e ≤ n
/-- the automaton's scan -/
theorem scan_best : ∀ (r pre : List Nat) (q : Nat) (kind : Int) (z : Nat), (∀ b ∈ r, b < 256) → (q, t4 pre) ∈ bT → Best (pre ++ r) (upto pre.length) kind z →
    Best (pre ++ r) (upto (pre ++ r).length) (scan AU0 q r pre.length kind z).1 (scan AU0 q r pre.length kind z).2.1
  | [], pre, q, kind, z, _, _, h => by
    rw [scan]
    simpa using h
  | b :: r, pre, q, kind, z, hb, hq, h => by
    have hbb := hb b List.mem_cons_self
    have hst := live_step hq hbb
    have hcat : pre ++ b :: r = (pre ++ [b]) ++ r := by simp
    have htk : (pre ++ b :: r).take (pre.length + 1) = pre ++ [b] := by rw [hcat, List.take_left' (by simp)]
    rw [scan]
    cases hn : AU0.nx q b with
    | none =>
      rw [hn] at hst
      have hst : d4 (t4 pre) b ∈ eT := hst
      rw [← t4_snoc] at hst
      dsimp only
      -- nothing longer matches
      have hno : ∀ (s p : List Nat), (∀ b ∈ s, b < 256) → t4 p ∈ eT → ∀ k, k < 4 → mt k (p ++ s) = false := by
        intro s
        induction s with
        | nil =>
          intro p _ hp k hk
          rw [List.append_nil]
          refine fst4_none ?_ k hk
          have := List.all_eq_true.1 dead_no _ hp
          exact eq_of_beq this
        | cons c s ih =>
          intro p hs hp k hk
          rw [show p ++ c :: s = (p ++ [c]) ++ s by simp]
          exact ih (p ++ [c]) (fun x hx => hs x (List.mem_cons_of_mem _ hx)) (by rw [t4_snoc]; exact dead_step hp (hs c List.mem_cons_self)) k hk
      have hno2 : ∀ k e, k < 4 → pre.length < e → e ≤ (pre ++ b :: r).length → mt k ((pre ++ b :: r).take e) = false := by
        intro k e hk h1 h2
        have : (pre ++ b :: r).take e = (pre ++ [b]) ++ r.take (e - (pre.length + 1)) := by
          rw [hcat, List.take_append, List.take_of_length_le (by simp; omega)]
          simp
        rw [this]
        exact hno _ _ (fun x hx => hb x (List.mem_cons_of_mem _ (List.mem_of_mem_take hx))) hst k hk
      rcases h with ⟨h1, h2, h3⟩ | ⟨k0, h1, h2, h3, h4⟩
      · refine .inl ⟨h1, h2, fun k e ⟨e1, e2, e3⟩ => ?_⟩
        by_cases hle : e ≤ pre.length
        · exact h3 k e ⟨e1, e2, hle⟩
        · exact hno2 k e e1 (by omega) e3
      · refine .inr ⟨k0, h1, ⟨h2.1, h2.2.1, by have := h2.2.2; simp; omega⟩, h3, fun k e ⟨e1, e2, e3⟩ hm => ?_⟩
        by_cases hle : e ≤ pre.length
        · exact h4 k e ⟨e1, e2, hle⟩ hm
        · rw [hno2 k e e1 (by omega) e3] at hm; cases hm
    | some q' =>
      rw [hn] at hst
      have hst : (q', d4 (t4 pre) b) ∈ bT := hst
      rw [← t4_snoc] at hst
      have hac : AU0.ac q' = fst4 (pre ++ [b]) := by
        have := List.all_eq_true.1 acc_ok _ hst
        exact eq_of_beq this
      have ih := scan_best r (pre ++ [b]) q'
      have hlen : (pre ++ [b]).length = pre.length + 1 := by simp
      rw [hlen, ← hcat] at ih
      dsimp only
      cases ha : AU0.ac q' with
      | none =>
        rw [ha] at hac
        have hno := fst4_none hac.symm
        refine ih kind z (fun x hx => hb x (List.mem_cons_of_mem _ hx)) hst ?_
        rcases h with ⟨h1, h2, h3⟩ | ⟨k0, h1, h2, h3, h4⟩
        · refine .inl ⟨h1, h2, fun k e ⟨e1, e2, e3⟩ => ?_⟩
          by_cases hle : e ≤ pre.length
          · exact h3 k e ⟨e1, e2, hle⟩
          · obtain rfl : e = pre.length + 1 := by omega
            rw [htk]; exact hno k e1
        · refine .inr ⟨k0, h1, ⟨h2.1, h2.2.1, by have := h2.2.2; omega⟩, h3, fun k e ⟨e1, e2, e3⟩ hm => ?_⟩
          by_cases hle : e ≤ pre.length
          · exact h4 k e ⟨e1, e2, hle⟩ hm
          · obtain rfl : e = pre.length + 1 := by omega
            rw [htk, hno k e1] at hm; cases hm
      | some a =>
        rw [ha] at hac
        obtain ⟨a1, a2, a3⟩ := fst4_some hac.symm
        refine ih (a : Int) (pre.length + 1) (fun x hx => hb x (List.mem_cons_of_mem _ hx)) hst ?_
        refine .inr ⟨a, rfl, ⟨a1, by omega, Nat.le_refl _⟩, by rw [htk]; exact a2, fun k e ⟨e1, e2, e3⟩ hm => ?_⟩
        by_cases hle : e ≤ pre.length
        · exact .inl (by omega)
        · obtain rfl : e = pre.length + 1 := by omega
          refine .inr ⟨rfl, ?_⟩
          rw [htk] at hm
          rcases Nat.lt_or_ge k a with h5 | h5
          · rw [a3 k h5] at hm; cases hm
          · exact h5
theorem scan_best0 (r : List Nat) (hb : ∀ b ∈ r, b < 256) : Best r (upto r.length) (scan AU0 0 r 0 (-1) 1).1 (scan AU0 0 r 0 (-1) 1).2.1 := by
  have := scan_best r [] 0 (-1) 1 hb (List.contains_iff_mem.1 start_ok) (.inl ⟨rfl, rfl, fun k e h => by have := h.2.1; have := h.2.2; simp at *; omega⟩)
  simpa using this
end Go.Proofs.YtlgpacpebjechaaGreatDoor
