/-
  Texts joined: The lexer as plain mathematics: one token, all tokens; what a token depends on; The difference of two texts as plain mathematics: edits made from the last to the first; Tokens after an edit, and the sizes of texts that are edited from the last edit to the first: plain mathematics.
-/
import Derived.Test.YtlgpacpebjechaaGreatDoorRows
/-
  The lexer as plain mathematics: one token, all tokens; what a token depends on.
-/
namespace Go.Proofs.PLX
/-- an automaton: what follows a state at a byte, what a state accepts -/
structure AU where
  nx : Nat → Nat → Option Nat
  ac : Nat → Option Nat
structure Tok where
  kind : Int
  at_ : Nat
  text : List Nat
  look : Nat
deriving DecidableEq
section
variable (M : AU)
/-- the scan behind n bytes read: kind, size, look -/
def scan : Nat → List Nat → Nat → Int → Nat → Int × Nat × Nat
  | _, [], n, k, z => (k, z, n + 1)
  | q, b :: r, n, k, z => match M.nx q b with
    | none => (k, z, n + 1)
    | some q' => match M.ac q' with
      | none => scan q' r (n + 1) k z
      | some a => scan q' r (n + 1) a (n + 1)
/-- the token at the front of a text that begins at i -/
def tok (i : Nat) (r : List Nat) : Tok := ⟨(scan M 0 r 0 (-1) 1).1, i, r.take (scan M 0 r 0 (-1) 1).2.1, (scan M 0 r 0 (-1) 1).2.2⟩
theorem scan_size : ∀ (r : List Nat) (q n : Nat) (k : Int) (z : Nat), 1 ≤ z → z ≤ n + r.length ∨ z = 1 → 1 ≤ (scan M q r n k z).2.1 ∧ ((scan M q r n k z).2.1 ≤ n + r.length ∨ (scan M q r n k z).2.1 = 1)
  | [], q, n, k, z, h1, h2 => ⟨h1, h2⟩
  | b :: r, q, n, k, z, h1, h2 => by
    rw [scan]
    split
    · exact ⟨h1, h2⟩
    · rename_i q' _
      rw [List.length_cons] at h2 ⊢
      split
      · have := scan_size r q' (n + 1) k z h1 (by omega)
        omega
      · rename_i a _
        have := scan_size r q' (n + 1) (a : Int) (n + 1) (by omega) (by omega)
        omega
theorem scan_look : ∀ (r : List Nat) (q n : Nat) (k : Int) (z : Nat), n + 1 ≤ (scan M q r n k z).2.2 ∧ (scan M q r n k z).2.2 ≤ n + r.length + 1
  | [], q, n, k, z => by rw [scan]; simp
  | b :: r, q, n, k, z => by
    rw [scan, List.length_cons]
    split
    · simp only; omega
    · rename_i q' _
      split
      · have := scan_look r q' (n + 1) k z; omega
      · rename_i a _
        have := scan_look r q' (n + 1) (a : Int) (n + 1); omega
theorem scan_le : ∀ (r : List Nat) (q n : Nat) (k : Int) (z : Nat), z ≤ n + 1 → (scan M q r n k z).2.1 ≤ (scan M q r n k z).2.2
  | [], q, n, k, z, h => by rw [scan]; exact h
  | b :: r, q, n, k, z, h => by
    rw [scan]
    split
    · exact h
    · rename_i q' _
      split
      · exact scan_le r q' (n + 1) k z (by omega)
      · rename_i a _
        exact scan_le r q' (n + 1) a (n + 1) (by omega)
/-- a scan that stops within the text depends on the bytes that it looked at -/
theorem scan_local : ∀ (r s : List Nat) (q n : Nat) (k : Int) (z : Nat), (scan M q r n k z).2.2 ≤ n + r.length → s.take ((scan M q r n k z).2.2 - n) = r.take ((scan M q r n k z).2.2 - n) → scan M q s n k z = scan M q r n k z
  | [], s, q, n, k, z, h, _ => by
    exfalso
    rw [scan] at h
    simp only [List.length_nil] at h
    omega
  | b :: r, s, q, n, k, z, h, ht => by
    have hl := (scan_look M (b :: r) q n k z).1
    obtain ⟨d, hd⟩ : ∃ d, (scan M q (b :: r) n k z).2.2 - n = d + 1 := ⟨(scan M q (b :: r) n k z).2.2 - n - 1, by omega⟩
    rw [hd, List.take_succ_cons] at ht
    cases s with
    | nil => simp at ht
    | cons c s =>
      rw [List.take_succ_cons] at ht
      injection ht with h1 h2
      subst h1
      rw [List.length_cons] at h
      rw [scan] at h hd ⊢
      rw [scan]
      split
      · rfl
      · rename_i q' hq
        rw [hq] at h hd
        simp only at h hd
        split
        · rename_i hn
          rw [hn] at h hd
          simp only at h hd
          exact scan_local r s q' (n + 1) k z (by omega) (by rw [show (scan M q' r (n + 1) k z).2.2 - (n + 1) = d by omega]; exact h2)
        · rename_i a hn
          rw [hn] at h hd
          simp only at h hd
          exact scan_local r s q' (n + 1) a (n + 1) (by omega) (by rw [show (scan M q' r (n + 1) a (n + 1)).2.2 - (n + 1) = d by omega]; exact h2)
/-! ### all tokens -/
inductive Lx : Nat → List Nat → List Tok → Prop
  | nil (i : Nat) : Lx i [] []
  | cons {i : Nat} {r : List Nat} {ts : List Tok} (hr : r ≠ []) (h : Lx (i + (tok M i r).text.length) (r.drop (tok M i r).text.length) ts) : Lx i r (tok M i r :: ts)
theorem tok_len {i : Nat} {r : List Nat} (hr : r ≠ []) : 1 ≤ (tok M i r).text.length ∧ (tok M i r).text.length ≤ r.length ∧ (tok M i r).text = r.take (tok M i r).text.length := by
  have h := scan_size M r 0 0 (-1) 1 (Nat.le_refl _) (.inr rfl)
  have hl : 1 ≤ r.length := by
    cases r with
    | nil => exact absurd rfl hr
    | cons a r => simp
  have e : (tok M i r).text.length = (scan M 0 r 0 (-1) 1).2.1 := by
    unfold tok
    simp only [List.length_take]
    omega
  refine ⟨by omega, by omega, ?_⟩
  rw [e]; rfl
theorem Lx.exist : ∀ (n i : Nat) (r : List Nat), r.length ≤ n → ∃ ts, Lx M i r ts
  | 0, i, r, h => by
    obtain rfl := List.length_eq_zero_iff.1 (Nat.le_zero.1 h)
    exact ⟨[], .nil i⟩
  | n + 1, i, r, h => by
    by_cases hr : r = []
    · subst hr; exact ⟨[], .nil i⟩
    · have h1 := tok_len M (i := i) hr
      obtain ⟨ts, hts⟩ := Lx.exist n (i + (tok M i r).text.length) (r.drop (tok M i r).text.length) (by rw [List.length_drop]; omega)
      exact ⟨_, .cons hr hts⟩
theorem Lx.unique {i : Nat} {r : List Nat} {a : List Tok} (h : Lx M i r a) : ∀ b, Lx M i r b → a = b := by
  induction h with
  | nil i =>
    intro b hb
    cases hb with
    | nil => rfl
    | cons hr _ => exact absurd rfl hr
  | cons hr h ih =>
    intro b hb
    cases hb with
    | nil => exact absurd rfl hr
    | cons _ h2 => rw [ih _ h2]
theorem Lx.text {i : Nat} {r : List Nat} {ts : List Tok} (h : Lx M i r ts) : ts.flatMap (·.text) = r := by
  induction h with
  | nil i => rfl
  | cons hr h ih =>
    rw [List.flatMap_cons, ih, (tok_len M hr).2.2, List.length_take, Nat.min_eq_left (tok_len M hr).2.1, List.take_append_drop]
def Tok.shift (d : Int) (t : Tok) : Tok := { t with at_ := (t.at_ + d).toNat }
theorem tok_shift {i j : Nat} (r : List Nat) : tok M j r = (tok M i r).shift ((j : Int) - i) := by
  unfold tok Tok.shift
  simp only [Tok.mk.injEq, true_and, and_true]
  omega
theorem Lx.shift {i : Nat} {r : List Nat} {ts : List Tok} (h : Lx M i r ts) : ∀ j, Lx M j r (ts.map (Tok.shift ((j : Int) - i))) := by
  induction h with
  | nil i => intro j; exact .nil j
  | @cons i r ts hr h ih =>
    intro j
    rw [List.map_cons, ← tok_shift M r]
    have e : (tok M j r).text = (tok M i r).text := rfl
    refine .cons hr ?_
    rw [e]
    have := ih (j + (tok M i r).text.length)
    rwa [show ((j + (tok M i r).text.length : Nat) : Int) - ((i + (tok M i r).text.length : Nat) : Int) = (j : Int) - i by omega] at this
/-! ### tokens ahead of an edit stay -/
def tlen (ts : List Tok) : Nat := (ts.map (·.text.length)).sum
theorem tlen_cons (t : Tok) (ts : List Tok) : tlen (t :: ts) = t.text.length + tlen ts := by unfold tlen; rw [List.map_cons, List.sum_cons]
theorem tok_same {i E : Nat} {r s : List Nat} (h : i + (tok M i r).look ≤ E) (hE : E ≤ i + r.length) (ht : s.take (E - i) = r.take (E - i)) : tok M i s = tok M i r := by
  have hl := scan_look M r 0 0 (-1) 1
  have hz := scan_size M r 0 0 (-1) 1 (Nat.le_refl _) (.inr rfl)
  have hlk : (tok M i r).look = (scan M 0 r 0 (-1) 1).2.2 := rfl
  rw [hlk] at h
  have e := scan_local M r s 0 0 (-1) 1 (by omega) (by
    rw [Nat.sub_zero]
    have h1 : ∀ l : List Nat, l.take (scan M 0 r 0 (-1) 1).2.2 = (l.take (E - i)).take (scan M 0 r 0 (-1) 1).2.2 := fun l => by rw [List.take_take, Nat.min_eq_left (by omega)]
    rw [h1 s, h1 r, ht])
  unfold tok
  rw [e]
  congr 1
  have hsz : (scan M 0 r 0 (-1) 1).2.1 ≤ E - i := by
    have : (scan M 0 r 0 (-1) 1).2.1 ≤ (scan M 0 r 0 (-1) 1).2.2 := scan_le M r 0 0 (-1) 1 (by omega)
    omega
  have h1 : ∀ l : List Nat, l.take (scan M 0 r 0 (-1) 1).2.1 = (l.take (E - i)).take (scan M 0 r 0 (-1) 1).2.1 := fun l => by rw [List.take_take, Nat.min_eq_left hsz]
  rw [h1 s, h1 r, ht]
theorem Lx.pre {E : Nat} : ∀ (ts us vs : List Tok) (i : Nat) (r s : List Nat), Lx M i r (ts ++ vs) → (∀ t ∈ ts, t.at_ + t.look ≤ E) → E ≤ i + r.length → s.take (E - i) = r.take (E - i) → Lx M (i + tlen ts) (s.drop (tlen ts)) us → Lx M i s (ts ++ us)
  | [], us, vs, i, r, s, _, _, _, _, hu => by simpa [tlen] using hu
  | t :: ts, us, vs, i, r, s, h, ht, hE, hs, hu => by
    rw [List.cons_append] at h
    cases h with
    | cons hr h =>
      have h1 : i + (tok M i r).look ≤ E := ht (tok M i r) (by simp)
      have h2 := tok_same M h1 hE hs
      have hl := tok_len M (i := i) hr
      have hlk := scan_look M r 0 0 (-1) 1
      have hz : (tok M i r).text.length ≤ (tok M i r).look := by
        have : (scan M 0 r 0 (-1) 1).2.1 ≤ (scan M 0 r 0 (-1) 1).2.2 := scan_le M r 0 0 (-1) 1 (by omega)
        unfold tok
        simp only [List.length_take]
        omega
      have hsn : s ≠ [] := by
        rintro rfl
        rw [List.take_nil] at hs
        have := congrArg List.length hs
        rw [List.length_take, List.length_nil] at this
        omega
      suffices key : Lx M i s (tok M i s :: (ts ++ us)) by
        rw [h2] at key
        exact key
      refine .cons hsn ?_
      rw [h2]
      refine Lx.pre ts us vs _ _ _ h (fun t ht' => ht t (List.mem_cons_of_mem _ ht')) (by rw [List.length_drop]; omega) ?_ ?_
      · rw [List.take_drop, List.take_drop, show (tok M i r).text.length + (E - (i + (tok M i r).text.length)) = E - i by omega, hs]
      · rw [tlen_cons] at hu
        rw [List.drop_drop, Nat.add_assoc]
        exact hu
theorem Lx.suf : ∀ (ts us : List Tok) (i : Nat) (r : List Nat), Lx M i r (ts ++ us) → Lx M (i + tlen ts) (r.drop (tlen ts)) us
  | [], us, i, r, h => by simpa [tlen] using h
  | t :: ts, us, i, r, h => by
    rw [List.cons_append] at h
    cases h with
    | cons hr h =>
      have h1 := Lx.suf ts us _ _ h
      rw [List.drop_drop, Nat.add_assoc] at h1
      rw [tlen_cons]
      exact h1
/-- what has been scanned so far -/
def Outs (b : List Nat) (at_ : Nat) (out : List Tok) : Prop := at_ = tlen out ∧ ∀ us, Lx M at_ (b.drop at_) us → Lx M 0 b (out ++ us)
theorem tlen_append (a b : List Tok) : tlen (a ++ b) = tlen a + tlen b := by unfold tlen; rw [List.map_append, List.sum_append]
theorem Outs.step {b : List Nat} {a : Nat} {out : List Tok} (h : Outs M b a out) (ha : a < b.length) : Outs M b (a + (tok M a (b.drop a)).text.length) (out ++ [tok M a (b.drop a)]) := by
  refine ⟨by rw [tlen_append, ← h.1]; simp [tlen], fun us hu => ?_⟩
  rw [List.append_assoc]
  refine h.2 _ ?_
  refine .cons (fun e => ?_) ?_
  · have := congrArg List.length e
    rw [List.length_drop, List.length_nil] at this
    omega
  · rw [List.drop_drop]
    exact hu
/-- the rest of the old tokens, moved, ends an update -/
theorem Outs.done {a b : List Nat} {p : Nat} {out old : List Tok} {k : Nat} (h : Outs M b p out) (ho : Lx M 0 a old) (hd : b.drop p = a.drop (tlen (old.take k))) :
    Lx M 0 b (out ++ (old.drop k).map (Tok.shift ((p : Int) - tlen (old.take k)))) := by
  refine h.2 _ ?_
  have h1 := Lx.suf M (old.take k) (old.drop k) 0 a (by rw [List.take_append_drop]; exact ho)
  rw [Nat.zero_add] at h1
  have h2 := h1.shift M p
  rw [hd]
  exact h2
end
end Go.Proofs.PLX
/-
  The difference of two texts as plain mathematics: edits made from the last to the first.
-/
namespace Go.Proofs.PLX
structure Ed where
  a : Nat
  d : Nat
  ins : List Nat
def ap (s : List Nat) (e : Ed) : List Nat := s.take e.a ++ e.ins ++ s.drop (e.a + e.d)
/-- the last edit first -/
def apR (l : List Ed) (s : List Nat) : List Nat := l.foldr (fun e s => ap s e) s
/-- edits in order, none over another, all behind m and ahead of n -/
def Ord (m n : Nat) : List Ed → Prop
  | [] => m ≤ n
  | e :: l => m ≤ e.a ∧ Ord (e.a + e.d) n l
theorem Ord.le : ∀ {l : List Ed} {m n : Nat}, Ord m n l → m ≤ n
  | [], _, _, h => h
  | e :: l, m, n, h => by have := Ord.le h.2; have := h.1; omega
theorem Ord.snoc : ∀ {l : List Ed} {m n : Nat} {e : Ed}, Ord m n l → n ≤ e.a → Ord m (e.a + e.d) (l ++ [e])
  | [], _, _, _, h, he => ⟨Nat.le_trans h he, Nat.le_refl _⟩
  | _ :: _, _, _, _, h, he => ⟨h.1, Ord.snoc h.2 he⟩
theorem Ord.mono : ∀ {l : List Ed} {m n n' : Nat}, Ord m n l → n ≤ n' → Ord m n' l
  | [], _, _, _, h, he => Nat.le_trans h he
  | _ :: _, _, _, _, h, he => ⟨h.1, Ord.mono h.2 he⟩
theorem apR_pre : ∀ (l : List Ed) (m n : Nat) (s : List Nat), Ord m n l → n ≤ s.length → (apR l s).take m = s.take m ∧ m ≤ (apR l s).length
  | [], m, n, s, h, hn => ⟨rfl, Nat.le_trans h hn⟩
  | e :: l, m, n, s, h, hn => by
    obtain ⟨h1, h2⟩ := apR_pre l (e.a + e.d) n s h.2 hn
    have h3 : apR (e :: l) s = ap (apR l s) e := rfl
    have hm := h.1
    have h4 : ∀ t : List Nat, t.take m = (t.take (e.a + e.d)).take m := fun t => by rw [List.take_take, Nat.min_eq_left (by omega)]
    rw [h3]
    unfold ap
    constructor
    · rw [List.append_assoc, List.take_append_of_le_length (by rw [List.length_take]; omega), List.take_take, Nat.min_eq_left hm, h4 (apR l s), h1, ← h4]
    · rw [List.length_append, List.length_append, List.length_take]; omega
theorem apR_app : ∀ (l : List Ed) (m n : Nat) (x y : List Nat), Ord m n l → n ≤ x.length → apR l (x ++ y) = apR l x ++ y
  | [], _, _, _, _, _, _ => rfl
  | e :: l, m, n, x, y, h, hn => by
    have h1 := apR_app l (e.a + e.d) n x y h.2 hn
    obtain ⟨_, h2⟩ := apR_pre l (e.a + e.d) n x h.2 hn
    show ap (apR l (x ++ y)) e = ap (apR l x) e ++ y
    rw [h1]
    unfold ap
    rw [List.take_append_of_le_length (by omega), List.drop_append_of_le_length h2]
    simp
theorem apR_snoc (l : List Ed) (e : Ed) (s : List Nat) : apR (l ++ [e]) s = apR l (ap s e) := by unfold apR; rw [List.foldr_append]; rfl
section
variable (a b : List Nat)
/-- no edit is open: a's first i bytes are turned to b's first j bytes -/
def DiffC (l : List Ed) (i j : Nat) : Prop := Ord 0 i l ∧ apR l (a.take i) = b.take j ∧ i ≤ a.length ∧ j ≤ b.length
/-- edit e is open -/
def DiffO (l : List Ed) (e : Ed) (i j : Nat) : Prop := Ord 0 e.a l ∧ e.a + e.d = i ∧ apR l (a.take e.a ++ e.ins) = b.take j ∧ i ≤ a.length ∧ j ≤ b.length
variable {a b}
theorem DiffC.start : DiffC a b [] 0 0 := ⟨Nat.le_refl _, by simp [apR], Nat.zero_le _, Nat.zero_le _⟩
theorem DiffC.same {l : List Ed} {i j : Nat} {c : Nat} (h : DiffC a b l i j) (ha : a[i]? = some c) (hb : b[j]? = some c) : DiffC a b l (i + 1) (j + 1) := by
  obtain ⟨h1, h2, h3, h4⟩ := h
  refine ⟨h1.mono (Nat.le_succ _), ?_, (List.getElem?_eq_some_iff.1 ha).1, (List.getElem?_eq_some_iff.1 hb).1⟩
  rw [List.take_add_one, ha, List.take_add_one, hb, apR_app l 0 i _ _ h1 (by rw [List.length_take]; omega), h2]
theorem DiffC.opens {l : List Ed} {i j : Nat} (h : DiffC a b l i j) : DiffO a b l ⟨i, 0, []⟩ i j := ⟨h.1, rfl, by simpa using h.2.1, h.2.2.1, h.2.2.2⟩
theorem DiffO.del {l : List Ed} {e : Ed} {i j : Nat} (h : DiffO a b l e i j) (hi : i < a.length) : DiffO a b l ⟨e.a, e.d + 1, e.ins⟩ (i + 1) j :=
  ⟨h.1, by have := h.2.1; simp only; omega, h.2.2.1, hi, h.2.2.2.2⟩
theorem DiffO.ins {l : List Ed} {e : Ed} {i j : Nat} {c : Nat} (h : DiffO a b l e i j) (hb : b[j]? = some c) : DiffO a b l ⟨e.a, e.d, e.ins ++ [c]⟩ i (j + 1) := by
  obtain ⟨h1, h2, h3, h4, h5⟩ := h
  refine ⟨h1, h2, ?_, h4, (List.getElem?_eq_some_iff.1 hb).1⟩
  have h6 : apR l (a.take e.a ++ e.ins) ++ [c] = apR l ((a.take e.a ++ e.ins) ++ [c]) := (apR_app l 0 e.a _ _ h1 (by rw [List.length_append, List.length_take]; omega)).symm
  simp only
  rw [← List.append_assoc, ← h6, h3, List.take_add_one, hb]; rfl
theorem DiffO.close {l : List Ed} {e : Ed} {i j : Nat} (h : DiffO a b l e i j) : DiffC a b (l ++ [e]) i j := by
  obtain ⟨h1, h2, h3, h4, h5⟩ := h
  refine ⟨by rw [← h2]; exact h1.snoc (Nat.le_refl _), ?_, h4, h5⟩
  rw [apR_snoc, ← h3]
  congr 1
  unfold ap
  rw [h2, List.take_take, Nat.min_eq_left (by omega), List.drop_eq_nil_of_le (by rw [List.length_take]; omega)]
  simp
theorem DiffC.fin {l : List Ed} (h : DiffC a b l a.length b.length) : apR l a = b := by
  have := h.2.1
  rwa [List.take_length, List.take_length] at this
end
end Go.Proofs.PLX
/-
  Tokens after an edit, and the sizes of texts that are edited from the last edit to the first: plain mathematics.
-/
namespace Go.Proofs.PLX
section
variable {M : AU}
theorem Lx.whole {i : Nat} {r : List Nat} {ts : List Tok} (h : Lx M i r ts) : tlen ts = r.length := by
  have := congrArg List.length (Lx.text M h)
  rw [List.length_flatMap] at this
  exact this
theorem tlen_take_le (ts : List Tok) (k : Nat) : tlen (ts.take k) ≤ tlen ts := by
  have h := tlen_append (ts.take k) (ts.drop k)
  rw [List.take_append_drop] at h
  omega
theorem tlen_take_mono (ts : List Tok) {i j : Nat} (h : i ≤ j) : tlen (ts.take i) ≤ tlen (ts.take j) := by
  have := tlen_take_le (ts.take j) i
  rwa [List.take_take, Nat.min_eq_left h] at this
theorem Lx.bounds {i : Nat} {r : List Nat} {ts : List Tok} (h : Lx M i r ts) : ∀ t ∈ ts, i ≤ t.at_ ∧ t.at_ + t.text.length ≤ i + r.length ∧ t.look ≤ r.length + 1 ∧ 1 ≤ t.text.length ∧ t.text.length ≤ t.look := by
  induction h with
  | nil i => intro t ht; simp at ht
  | @cons i r ts hr h ih =>
    have h1 := tok_len M (i := i) hr
    intro t ht
    rcases List.mem_cons.1 ht with rfl | ht
    · have h2 := (scan_look M r 0 0 (-1) 1).2
      have h3 : (tok M i r).look = (scan M 0 r 0 (-1) 1).2.2 := rfl
      have h4 : (tok M i r).at_ = i := rfl
      have h5 : (tok M i r).text.length ≤ (tok M i r).look := by
        have : (scan M 0 r 0 (-1) 1).2.1 ≤ (scan M 0 r 0 (-1) 1).2.2 := scan_le M r 0 0 (-1) 1 (by omega)
        unfold tok
        simp only [List.length_take]
        omega
      omega
    · have h2 := ih t ht
      rw [List.length_drop] at h2
      omega
theorem Lx.many {i : Nat} {r : List Nat} {ts : List Tok} (h : Lx M i r ts) : ts.length ≤ r.length := by
  induction h with
  | nil i => exact Nat.le_refl _
  | @cons i r ts hr h ih =>
    have h1 := tok_len M (i := i) hr
    rw [List.length_drop] at ih
    rw [List.length_cons]
    omega
theorem Lx.pos {i : Nat} {r : List Nat} {ts : List Tok} (h : Lx M i r ts) : ∀ (k : Nat) (t : Tok), ts[k]? = some t → t.at_ = i + tlen (ts.take k) := by
  induction h with
  | nil i => intro k t ht; simp at ht
  | @cons i r ts hr h ih =>
    intro k t ht
    cases k with
    | zero =>
      rw [List.getElem?_cons_zero] at ht
      obtain rfl := Option.some.inj ht
      show i = i + tlen []
      simp [tlen]
    | succ k =>
      rw [List.getElem?_cons_succ] at ht
      rw [List.take_succ_cons, tlen_cons, ih k t ht]
      omega
theorem tlen_next (ts : List Tok) (k : Nat) (t : Tok) (h : ts[k]? = some t) : tlen (ts.take (k + 1)) = tlen (ts.take k) + t.text.length := by
  rw [List.take_add_one, h, tlen_append]
  simp [tlen]
theorem Lx.ahead {r : List Nat} {ts : List Tok} (h : Lx M 0 r ts) {E : Nat} : ∀ (k : Nat), (∀ t ∈ ts.take k, t.at_ + t.look ≤ E) → tlen (ts.take k) ≤ E
  | 0, _ => Nat.zero_le _
  | k + 1, hk => by
    rcases Nat.lt_or_ge k ts.length with h1 | h1
    · obtain ⟨t, ht⟩ : ∃ t, ts[k]? = some t := ⟨_, List.getElem?_eq_getElem h1⟩
      have h2 := tlen_next ts k t ht
      have h3 := Lx.pos h k t ht
      have h4 := Lx.bounds h t (List.mem_of_getElem? ht)
      have h5 := hk t (List.mem_of_getElem? (i := k) (by rw [List.getElem?_take, if_pos (Nat.lt_succ_self k)]; exact ht))
      omega
    · have e : ts.take (k + 1) = ts.take k := by rw [List.take_of_length_le h1, List.take_of_length_le (by omega)]
      rw [e] at hk ⊢
      exact Lx.ahead h k hk
theorem ap_len (s : List Nat) (e : Ed) (h : e.a + e.d ≤ s.length) : (ap s e).length + e.d = s.length + e.ins.length := by
  unfold ap
  rw [List.length_append, List.length_append, List.length_take, List.length_drop]
  omega
theorem ap_take (s : List Nat) (e : Ed) (h : e.a + e.d ≤ s.length) : (ap s e).take e.a = s.take e.a := by
  unfold ap
  rw [List.append_assoc, List.take_append_of_le_length (by rw [List.length_take]; omega), List.take_take, Nat.min_self]
theorem ap_drop (s : List Nat) (e : Ed) (h : e.a + e.d ≤ s.length) {p q : Nat} (hp : e.a + e.ins.length ≤ p) (hq : q + e.ins.length = p + e.d) : (ap s e).drop p = s.drop q := by
  obtain ⟨x, rfl⟩ := Nat.exists_eq_add_of_le hp
  have h1 : (s.take e.a ++ e.ins).length = e.a + e.ins.length := by rw [List.length_append, List.length_take]; omega
  unfold ap
  rw [← List.drop_drop, ← h1, List.drop_left, List.drop_drop]
  congr 1
  omega
/-- the tokens ahead of an edit -/
theorem Outs.start {a : List Nat} {ts : List Tok} (h : Lx M 0 a ts) {e : Ed} (he : e.a + e.d ≤ a.length) {k : Nat} (hk : ∀ t ∈ ts.take k, t.at_ + t.look ≤ e.a) : Outs M (ap a e) (tlen (ts.take k)) (ts.take k) := by
  refine ⟨rfl, fun us hu => ?_⟩
  refine Lx.pre M (E := e.a) (ts.take k) us (ts.drop k) 0 a (ap a e) (by rw [List.take_append_drop]; exact h) hk (by omega) (by rw [Nat.sub_zero, ap_take _ _ he]) ?_
  rw [Nat.zero_add]
  exact hu
/-- the tokens behind an edit -/
theorem Outs.finish {a : List Nat} {ts out : List Tok} (h : Lx M 0 a ts) {e : Ed} (he : e.a + e.d ≤ a.length) {p k : Nat} (ho : Outs M (ap a e) p out) (hp : e.a + e.ins.length ≤ p) (hq : tlen (ts.take k) + e.ins.length = p + e.d) :
    Lx M 0 (ap a e) (out ++ (ts.drop k).map (Tok.shift ((e.ins.length : Int) - e.d))) := by
  have := Outs.done M ho h (ap_drop a e he hp hq)
  rwa [show (p : Int) - tlen (ts.take k) = (e.ins.length : Int) - e.d by omega] at this
end
/-! ### sizes -/
def dels (l : List Ed) : Nat := (l.map (·.d)).sum
def inss (l : List Ed) : Nat := (l.map (·.ins.length)).sum
theorem Ord.dels : ∀ {l : List Ed} {m n : Nat}, Ord m n l → m + dels l ≤ n
  | [], _, _, h => h
  | e :: l, m, n, h => by
    have h1 := Ord.dels h.2
    have h2 := h.1
    unfold PLX.dels at h1 ⊢
    rw [List.map_cons, List.sum_cons]
    omega
theorem apR_len : ∀ (l : List Ed) (m n : Nat) (s : List Nat), Ord m n l → n ≤ s.length → (apR l s).length + dels l = s.length + inss l
  | [], _, _, _, _, _ => rfl
  | e :: l, m, n, s, h, hn => by
    have h1 := apR_len l _ _ s h.2 hn
    have h2 := ap_len (apR l s) e (apR_pre l _ _ s h.2 hn).2
    have h3 : apR (e :: l) s = ap (apR l s) e := rfl
    rw [h3]
    unfold dels inss at h1 ⊢
    rw [List.map_cons, List.sum_cons, List.map_cons, List.sum_cons]
    omega
theorem Ord.drop : ∀ (k : Nat) {l : List Ed} {m n : Nat}, Ord m n l → ∃ m', m ≤ m' ∧ Ord m' n (l.drop k)
  | 0, l, m, n, h => ⟨m, Nat.le_refl _, h⟩
  | k + 1, [], m, n, h => ⟨m, Nat.le_refl _, h⟩
  | k + 1, e :: l, m, n, h => by
    obtain ⟨m', h1, h2⟩ := Ord.drop k h.2
    have := h.1
    exact ⟨m', by omega, h2⟩
theorem inss_drop (l : List Ed) (k : Nat) : inss (l.drop k) ≤ inss l := by
  have h : inss (l.take k ++ l.drop k) = inss (l.take k) + inss (l.drop k) := by unfold inss; rw [List.map_append, List.sum_append]
  rw [List.take_append_drop] at h
  omega
theorem DiffC.inss {a b : List Nat} {l : List Ed} {i j : Nat} (h : DiffC a b l i j) : inss l ≤ a.length + b.length := by
  obtain ⟨h1, h2, h3, h4⟩ := h
  have h5 := apR_len l 0 i (a.take i) h1 (by rw [List.length_take]; omega)
  have h6 := Ord.dels h1
  rw [h2, List.length_take, List.length_take] at h5
  omega
/-- the edits from number k on are made: the next one fits -/
theorem apR_step {a : List Nat} {l : List Ed} (h : Ord 0 a.length l) {k : Nat} {e : Ed} (hk : l[k]? = some e) :
    apR (l.drop k) a = ap (apR (l.drop (k + 1)) a) e ∧ e.a + e.d ≤ (apR (l.drop (k + 1)) a).length ∧ (apR (l.drop (k + 1)) a).length ≤ a.length + PLX.inss l ∧ e.ins.length ≤ PLX.inss l := by
  obtain ⟨hl, e1⟩ := List.getElem?_eq_some_iff.1 hk
  have hd : l.drop k = e :: l.drop (k + 1) := by rw [List.drop_eq_getElem_cons hl, e1]
  obtain ⟨m', _, h1⟩ := h.drop k
  rw [hd] at h1
  have h2 := apR_pre _ _ _ a h1.2 (Nat.le_refl _)
  have h3 := apR_len _ _ _ a h1.2 (Nat.le_refl _)
  have h4 := inss_drop l (k + 1)
  have h5 := inss_drop l k
  refine ⟨by rw [hd]; rfl, h2.2, by omega, ?_⟩
  rw [hd] at h5
  unfold PLX.inss at h5 ⊢
  rw [List.map_cons, List.sum_cons] at h5
  omega
end Go.Proofs.PLX
