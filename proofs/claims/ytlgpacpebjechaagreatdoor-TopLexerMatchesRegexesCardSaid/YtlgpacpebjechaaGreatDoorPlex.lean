/-
  The lexer as plain mathematics: one token, all tokens; what a token depends on.
-/
import Derived.Test.YtlgpacpebjechaaGreatDoorRows
namespace Go.Proofs.PLX
/-- an automaton: what follows a state at a byte, what a state accepts -/
structure AU where
  nx : Nat → Nat → Option Nat
  ac : Nat → Option Nat
structure Tok where
  kind : Int
  at_ : Nat
  text : List Nat
  look : Nat
deriving DecidableEq
section
variable (M : AU)
/-- the scan behind n bytes read: kind, size, look -/
def scan : Nat → List Nat → Nat → Int → Nat → Int × Nat × Nat
  | _, [], n, k, z => (k, z, n + 1)
  | q, b :: r, n, k, z => match M.nx q b with
    | none => (k, z, n + 1)
    | some q' => match M.ac q' with
      | none => scan q' r (n + 1) k z
      | some a => scan q' r (n + 1) a (n + 1)
/-- the token at the front of a text that begins at i -/
def tok (i : Nat) (r : List Nat) : Tok := ⟨(scan M 0 r 0 (-1) 1).1, i, r.take (scan M 0 r 0 (-1) 1).2.1, (scan M 0 r 0 (-1) 1).2.2⟩
theorem scan_size : ∀ (r : List Nat) (q n : Nat) (k : Int) (z : Nat), 1 ≤ z → z ≤ n + r.length ∨ z = 1 → 1 ≤ (scan M q r n k z).2.1 ∧ ((scan M q r n k z).2.1 ≤ n + r.length ∨ (scan M q r n k z).2.1 = 1)
  | [], q, n, k, z, h1, h2 => ⟨h1, h2⟩
  | b :: r, q, n, k, z, h1, h2 => by
    rw [scan]
    split
    · exact ⟨h1, h2⟩
    · rename_i q' _
      rw [List.length_cons] at h2 ⊢
      split
      · have := scan_size r q' (n + 1) k z h1 (by omega)
        omega
      · rename_i a _
        have := scan_size r q' (n + 1) (a : Int) (n + 1) (by omega) (by omega)
        omega
theorem scan_look : ∀ (r : List Nat) (q n : Nat) (k : Int) (z : Nat), n + 1 ≤ (scan M q r n k z).2.2 ∧ (scan M q r n k z).2.2 ≤ n + r.length + 1
  | [], q, n, k, z => by rw [scan]; simp
  | b :: r, q, n, k, z => by
    rw [scan, List.length_cons]
    split
    · simp only; omega
    · rename_i q' _
      split
      · have := scan_look r q' (n + 1) k z; omega
      · rename_i a _
        have := scan_look r q' (n + 1) (a : Int) (n + 1); omega
theorem scan_le : ∀ (r : List Nat) (q n : Nat) (k : Int) (z : Nat), z ≤ n + 1 → (scan M q r n k z).2.1 ≤ (scan M q r n k z).2.2
  | [], q, n, k, z, h => by rw [scan]; exact h
  | b :: r, q, n, k, z, h => by
    rw [scan]
    split
    · exact h
    · rename_i q' _
      split
      · exact scan_le r q' (n + 1) k z (by omega)
      · rename_i a _
        exact scan_le r q' (n + 1) a (n + 1) (by omega)
/-- a scan that stops within the text depends on the bytes that it looked at -/
theorem scan_local : ∀ (r s : List Nat) (q n : Nat) (k : Int) (z : Nat), (scan M q r n k z).2.2 ≤ n + r.length → s.take ((scan M q r n k z).2.2 - n) = r.take ((scan M q r n k z).2.2 - n) → scan M q s n k z = scan M q r n k z
  | [], s, q, n, k, z, h, _ => by
    exfalso
    rw [scan] at h
    simp only [List.length_nil] at h
    omega
  | b :: r, s, q, n, k, z, h, ht => by
    have hl := (scan_look M (b :: r) q n k z).1
    obtain ⟨d, hd⟩ : ∃ d, (scan M q (b :: r) n k z).2.2 - n = d + 1 := ⟨(scan M q (b :: r) n k z).2.2 - n - 1, by omega⟩
    rw [hd, List.take_succ_cons] at ht
    cases s with
    | nil => simp at ht
    | cons c s =>
      rw [List.take_succ_cons] at ht
      injection ht with h1 h2
      subst h1
      rw [List.length_cons] at h
      rw [scan] at h hd ⊢
      rw [scan]
      split
      · rfl
      · rename_i q' hq
        rw [hq] at h hd
        simp only at h hd
        split
        · rename_i hn
          rw [hn] at h hd
          simp only at h hd
          exact scan_local r s q' (n + 1) k z (by omega) (by rw [show (scan M q' r (n + 1) k z).2.2 - (n + 1) = d by omega]; exact h2)
        · rename_i a hn
          rw [hn] at h hd
          simp only at h hd
          exact scan_local r s q' (n + 1) a (n + 1) (by omega) (by rw [show (scan M q' r (n + 1) a (n + 1)).2.2 - (n + 1) = d by omega]; exact h2)
/-! ### all tokens -/
inductive Lx : Nat → List Nat → List Tok → Prop
  | nil (i : Nat) : Lx i [] []
  | cons {i : Nat} {r : List Nat} {ts : List Tok} (hr : r ≠ []) (h : Lx (i + (tok M i r).text.length) (r.drop (tok M i r).text.length) ts) : Lx i r (tok M i r :: ts)
theorem tok_len {i : Nat} {r : List Nat} (hr : r ≠ []) : 1 ≤ (tok M i r).text.length ∧ (tok M i r).text.length ≤ r.length ∧ (tok M i r).text = r.take (tok M i r).text.length := by
  have h := scan_size M r 0 0 (-1) 1 (Nat.le_refl _) (.inr rfl)
  have hl : 1 ≤ r.length := by
    cases r with
    | nil => exact absurd rfl hr
    | cons a r => simp
  have e : (tok M i r).text.length = (scan M 0 r 0 (-1) 1).2.1 := by
    unfold tok
    simp only [List.length_take]
    omega
  refine ⟨by omega, by omega, ?_⟩
  rw [e]; rfl
theorem Lx.exist : ∀ (n i : Nat) (r : List Nat), r.length ≤ n → ∃ ts, Lx M i r ts
  | 0, i, r, h => by
    obtain rfl := List.length_eq_zero_iff.1 (Nat.le_zero.1 h)
    exact ⟨[], .nil i⟩
  | n + 1, i, r, h => by
    by_cases hr : r = []
    · subst hr; exact ⟨[], .nil i⟩
    · have h1 := tok_len M (i := i) hr
      obtain ⟨ts, hts⟩ := Lx.exist n (i + (tok M i r).text.length) (r.drop (tok M i r).text.length) (by rw [List.length_drop]; omega)
      exact ⟨_, .cons hr hts⟩
theorem Lx.unique {i : Nat} {r : List Nat} {a : List Tok} (h : Lx M i r a) : ∀ b, Lx M i r b → a = b := by
  induction h with
  | nil i =>
    intro b hb
    cases hb with
    | nil => rfl
    | cons hr _ => exact absurd rfl hr
  | cons hr h ih =>
    intro b hb
    cases hb with
    | nil => exact absurd rfl hr
    | cons _ h2 => rw [ih _ h2]
theorem Lx.text {i : Nat} {r : List Nat} {ts : List Tok} (h : Lx M i r ts) : ts.flatMap (·.text) = r := by
  induction h with
  | nil i => rfl
  | cons hr h ih =>
    rw [List.flatMap_cons, ih, (tok_len M hr).2.2, List.length_take, Nat.min_eq_left (tok_len M hr).2.1, List.take_append_drop]
def Tok.shift (d : Int) (t : Tok) : Tok := { t with at_ := (t.at_ + d).toNat }
theorem tok_shift {i j : Nat} (r : List Nat) : tok M j r = (tok M i r).shift ((j : Int) - i) := by
  unfold tok Tok.shift
  simp only [Tok.mk.injEq, true_and, and_true]
  omega
theorem Lx.shift {i : Nat} {r : List Nat} {ts : List Tok} (h : Lx M i r ts) : ∀ j, Lx M j r (ts.map (Tok.shift ((j : Int) - i))) := by
  induction h with
  | nil i => intro j; exact .nil j
  | @cons i r ts hr h ih =>
    intro j
    rw [List.map_cons, ← tok_shift M r]
    have e : (tok M j r).text = (tok M i r).text := rfl
    refine .cons hr ?_
    rw [e]
    have := ih (j + (tok M i r).text.length)
    rwa [show ((j + (tok M i r).text.length : Nat) : Int) - ((i + (tok M i r).text.length : Nat) : Int) = (j : Int) - i by omega] at this
/-! ### tokens ahead of an edit stay -/
def tlen (ts : List Tok) : Nat := (ts.map (·.text.length)).sum
theorem tlen_cons (t : Tok) (ts : List Tok) : tlen (t :: ts) = t.text.length + tlen ts := by unfold tlen; rw [List.map_cons, List.sum_cons]
theorem tok_same {i E : Nat} {r s : List Nat} (h : i + (tok M i r).look ≤ E) (hE : E ≤ i + r.length) (ht : s.take (E - i) = r.take (E - i)) : tok M i s = tok M i r := by
  have hl := scan_look M r 0 0 (-1) 1
  have hz := scan_size M r 0 0 (-1) 1 (Nat.le_refl _) (.inr rfl)
  have hlk : (tok M i r).look = (scan M 0 r 0 (-1) 1).2.2 := rfl
  rw [hlk] at h
  have e := scan_local M r s 0 0 (-1) 1 (by omega) (by
    rw [Nat.sub_zero]
    have h1 : ∀ l : List Nat, l.take (scan M 0 r 0 (-1) 1).2.2 = (l.take (E - i)).take (scan M 0 r 0 (-1) 1).2.2 := fun l => by rw [List.take_take, Nat.min_eq_left (by omega)]
    rw [h1 s, h1 r, ht])
  unfold tok
  rw [e]
  congr 1
  have hsz : (scan M 0 r 0 (-1) 1).2.1 ≤ E - i := by
    have : (scan M 0 r 0 (-1) 1).2.1 ≤ (scan M 0 r 0 (-1) 1).2.2 := scan_le M r 0 0 (-1) 1 (by omega)
    omega
  have h1 : ∀ l : List Nat, l.take (scan M 0 r 0 (-1) 1).2.1 = (l.take (E - i)).take (scan M 0 r 0 (-1) 1).2.1 := fun l => by rw [List.take_take, Nat.min_eq_left hsz]
  rw [h1 s, h1 r, ht]
theorem Lx.pre {E : Nat} : ∀ (ts us vs : List Tok) (i : Nat) (r s : List Nat), Lx M i r (ts ++ vs) → (∀ t ∈ ts, t.at_ + t.look ≤ E) → E ≤ i + r.length → s.take (E - i) = r.take (E - i) → Lx M (i + tlen ts) (s.drop (tlen ts)) us → Lx M i s (ts ++ us)
  | [], us, vs, i, r, s, _, _, _, _, hu => by simpa [tlen] using hu
  | t :: ts, us, vs, i, r, s, h, ht, hE, hs, hu => by
    rw [List.cons_append] at h
    cases h with
    | cons hr h =>
      have h1 : i + (tok M i r).look ≤ E := ht (tok M i r) (by simp)
      have h2 := tok_same M h1 hE hs
      have hl := tok_len M (i := i) hr
      have hlk := scan_look M r 0 0 (-1) 1
      have hz : (tok M i r).text.length ≤ (tok M i r).look := by
        have : (scan M 0 r 0 (-1) 1).2.1 ≤ (scan M 0 r 0 (-1) 1).2.2 := scan_le M r 0 0 (-1) 1 (by omega)
        unfold tok
        simp only [List.length_take]
        omega
      have hsn : s ≠ [] := by
        rintro rfl
        rw [List.take_nil] at hs
        have := congrArg List.length hs
        rw [List.length_take, List.length_nil] at this
        omega
      suffices key : Lx M i s (tok M i s :: (ts ++ us)) by
        rw [h2] at key
        exact key
      refine .cons hsn ?_
      rw [h2]
      refine Lx.pre ts us vs _ _ _ h (fun t ht' => ht t (List.mem_cons_of_mem _ ht')) (by rw [List.length_drop]; omega) ?_ ?_
      · rw [List.take_drop, List.take_drop, show (tok M i r).text.length + (E - (i + (tok M i r).text.length)) = E - i by omega, hs]
      · rw [tlen_cons] at hu
        rw [List.drop_drop, Nat.add_assoc]
        exact hu
theorem Lx.suf : ∀ (ts us : List Tok) (i : Nat) (r : List Nat), Lx M i r (ts ++ us) → Lx M (i + tlen ts) (r.drop (tlen ts)) us
  | [], us, i, r, h => by simpa [tlen] using h
  | t :: ts, us, i, r, h => by
    rw [List.cons_append] at h
    cases h with
    | cons hr h =>
      have h1 := Lx.suf ts us _ _ h
      rw [List.drop_drop, Nat.add_assoc] at h1
      rw [tlen_cons]
      exact h1
/-- what has been scanned so far -/
def Outs (b : List Nat) (at_ : Nat) (out : List Tok) : Prop := at_ = tlen out ∧ ∀ us, Lx M at_ (b.drop at_) us → Lx M 0 b (out ++ us)
theorem tlen_append (a b : List Tok) : tlen (a ++ b) = tlen a + tlen b := by unfold tlen; rw [List.map_append, List.sum_append]
theorem Outs.step {b : List Nat} {a : Nat} {out : List Tok} (h : Outs M b a out) (ha : a < b.length) : Outs M b (a + (tok M a (b.drop a)).text.length) (out ++ [tok M a (b.drop a)]) := by
  refine ⟨by rw [tlen_append, ← h.1]; simp [tlen], fun us hu => ?_⟩
  rw [List.append_assoc]
  refine h.2 _ ?_
  refine .cons (fun e => ?_) ?_
  · have := congrArg List.length e
    rw [List.length_drop, List.length_nil] at this
    omega
  · rw [List.drop_drop]
    exact hu
/-- the rest of the old tokens, moved, ends an update -/
theorem Outs.done {a b : List Nat} {p : Nat} {out old : List Tok} {k : Nat} (h : Outs M b p out) (ho : Lx M 0 a old) (hd : b.drop p = a.drop (tlen (old.take k))) :
    Lx M 0 b (out ++ (old.drop k).map (Tok.shift ((p : Int) - tlen (old.take k)))) := by
  refine h.2 _ ?_
  have h1 := Lx.suf M (old.take k) (old.drop k) 0 a (by rw [List.take_append_drop]; exact ho)
  rw [Nat.zero_add] at h1
  have h2 := h1.shift M p
  rw [hd]
  exact h2
end
end Go.Proofs.PLX
