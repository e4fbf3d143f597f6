/-
  Rows of the call's own: a row whose cells are slices of numbers, each with a row of its own.
-/
import Derived.Test.YtjoejkfchnooaaaMem
import Derived.Test.YtjoejkfchnooaaaProg
import Derived.Deep.AppendLies
import Derived.Deep.OwnRows
namespace Go.Proofs.Ytjoejkfchnooaaa
open Go.RowKit
abbrev nv (x : Nat) : Value := .int .i64 (x : Int)
theorem info_int : (Try.prog.info? 3).map (fun i => (i.zero, i.size, i.bytes)) = some (some (.int .i64 0), 1, 8) := by kernel_rfl
theorem info_sl : (Try.prog.info? 32).map (fun i => (i.zero, i.size, i.bytes)) = some (some (.slice none 0 0), 1, 24) := by kernel_rfl
theorem info_bool : (Try.prog.info? 4).map (fun i => (i.zero, i.size, i.bytes)) = some (some (.bool false), 1, 1) := by kernel_rfl
/-- the slice value v owns a row of numbers, xs, among the blocks from B on -/
def Own (w : World) (B : Nat) (v : Value) (xs : List Nat) : Prop := w.ownsRow B 3 1 v xs.length (xs.map nv)
theorem Own.nil (w : World) (B : Nat) : Own w B (.slice none 0 0) [] := World.ownsRow_nil _ _ _ _
theorem Own.kept {w w' : World} {B : Nat} {v : Value} {xs : List Nat} {row : Option Nat} (h : Own w B v xs) (hg : w.grownBy w' row) (hne : v.ownBlock = none ∨ v.ownBlock ≠ row) : Own w' B v xs := World.ownsRow.kept h hg hne
theorem Own.alloc {w : World} {B : Nat} {v : Value} {xs : List Nat} (h : Own w B v xs) (o : Obj) : Own (w.alloc o) B v xs := World.ownsRow.alloc h o
theorem Own.drew {w : World} {B : Nat} {v : Value} {xs : List Nat} (h : Own w B v xs) : Own w.drew B v xs := h
theorem grown_set (w : World) (a : Addr) (u : Value) : w.grownBy (w.setCell a u) (some a.block) :=
  ⟨rfl, rfl, rfl, by simp [World.setCell], fun k _ hk => Below.heap_setCell w a u k (fun e => hk (by rw [e]))⟩
theorem Own.lt {w : World} {B : Nat} {v : Value} {xs : List Nat} (h : Own w B v xs) : ∀ k, v.ownBlock = some k → B ≤ k ∧ k < w.heap.size := World.ownsRow.lt h
theorem Own.setOther {w : World} {B : Nat} {v : Value} {xs : List Nat} (h : Own w B v xs) {a : Addr} (ha : a.block < B) (u : Value) : Own (w.setCell a u) B v xs :=
  h.kept (grown_set w a u) (by
    cases hv : v.ownBlock with
    | none => exact .inl rfl
    | some k =>
      right
      have := (h.lt k hv).1
      intro e
      have := Option.some.inj e
      omega)
theorem Own.rd {w : World} {B : Nat} {A : Option Addr} {n c : Nat} {xs : List Nat} (h : Own w B (.slice A n c) xs) : n = xs.length ∧ Rd1 w A nv xs := by
  have h0 := h
  unfold Own World.ownsRow at h
  obtain ⟨_, h | ⟨g, cap, cur, hv, _⟩⟩ := h
  · obtain ⟨hv, hn⟩ := h
    injection hv with h1 h2 h3
    cases xs with
    | nil => exact ⟨by simp [h2], Rd1.nil⟩
    | cons x xs => simp at hn
  · injection hv with h1 h2 h3
    subst h2
    exact ⟨rfl, Rd1.of_own (f := nv) (l := xs) h0⟩
/-- what a slice that owns looks like -/
theorem Own.form {w : World} {B : Nat} {v : Value} {xs : List Nat} (h : Own w B v xs) : ∃ A c, v = .slice A xs.length c ∧ (A = none ∧ xs = [] ∨ ∃ g, A = some ⟨g, 0, none⟩) := by
  unfold Own World.ownsRow at h
  obtain ⟨_, h | ⟨g, cap, cur, hv, _⟩⟩ := h
  · obtain ⟨hv, hn⟩ := h
    cases xs with
    | nil => exact ⟨none, 0, hv, .inl ⟨rfl, rfl⟩⟩
    | cons x xs => simp at hn
  · exact ⟨_, _, hv, .inr ⟨g, rfl⟩⟩

def upd {α : Type} (f : Nat → α) (i : Nat) (x : α) : Nat → α := fun j => if j = i then x else f j
theorem upd_same {α : Type} (f : Nat → α) (i : Nat) (x : α) : upd f i x i = x := if_pos rfl
theorem upd_other {α : Type} (f : Nat → α) (i j : Nat) (x : α) (h : j ≠ i) : upd f i x j = f j := if_neg h

/-- block u: a row of n slices, the i-th of which owns L i -/
structure Uses (w : World) (B u n : Nat) (V : Nat → Value) (L : Nat → List Nat) : Prop where
  row : w.rowIs u 32 n V
  lt : u < B
  own : ∀ i, i < n → Own w B (V i) (L i)
  sep : ∀ i j g, i < n → j < n → (V i).ownBlock = some g → (V j).ownBlock = some g → i = j
theorem Uses.kept {w w' : World} {B u n : Nat} {V : Nat → Value} {L : Nat → List Nat} {row : Option Nat} (h : Uses w B u n V L) (hg : w.grownBy w' row) (hu : row ≠ some u) (hne : ∀ i, i < n → (V i).ownBlock = none ∨ (V i).ownBlock ≠ row) : Uses w' B u n V L :=
  ⟨h.row.of_block (hg.block u h.row.lt (fun e => hu e.symm)), h.lt, fun i hi => (h.own i hi).kept hg (hne i hi), h.sep⟩
theorem Uses.alloc {w : World} {B u n : Nat} {V : Nat → Value} {L : Nat → List Nat} (h : Uses w B u n V L) (o : Obj) : Uses (w.alloc o) B u n V L :=
  ⟨h.row.alloc o, h.lt, fun i hi => (h.own i hi).alloc o, h.sep⟩
theorem Uses.drew {w : World} {B u n : Nat} {V : Nat → Value} {L : Nat → List Nat} (h : Uses w B u n V L) : Uses w.drew B u n V L := ⟨h.row, h.lt, h.own, h.sep⟩
/-- a store below B, elsewhere than in the row -/
theorem Uses.setOther {w : World} {B u n : Nat} {V : Nat → Value} {L : Nat → List Nat} (h : Uses w B u n V L) {a : Addr} (ha : a.block < B) (hu : a.block ≠ u) (x : Value) : Uses (w.setCell a x) B u n V L :=
  ⟨h.row.setOther (Ne.symm hu) x, h.lt, fun i hi => (h.own i hi).setOther ha x, h.sep⟩
/-- the row t has been appended to, and the slice that came of it is stored -/
theorem Uses.push {w w1 : World} {B u n t g c : Nat} {V : Nat → Value} {L : Nat → List Nat} {x : Nat} (h : Uses w B u n V L) (hB : B ≤ w.heap.size) (ht : t < n)
    (ho : w1.ownsRow B 3 1 (.slice (some ⟨g, 0, none⟩) ((L t).length + 1) c) ((L t).length + 1) ((L t).map nv ++ [nv x])) (hg : w.grownBy w1 (V t).ownBlock) (hw : (V t).ownBlock = some g ∨ g = w.heap.size) :
    Uses (w1.setCell ⟨u, t, none⟩ (.slice (some ⟨g, 0, none⟩) ((L t).length + 1) c)) B u n (upd V t (.slice (some ⟨g, 0, none⟩) ((L t).length + 1) c)) (upd L t (L t ++ [x])) := by
  have hu : (V t).ownBlock ≠ some u := fun e => by
    have := ((h.own t ht).lt _ e).1
    have := h.lt
    omega
  have hrow : w1.rowIs u 32 n V := h.row.of_block (hg.block u h.row.lt (fun e => hu e.symm))
  have hother : ∀ i, i < n → i ≠ t → ∀ k, (V i).ownBlock = some k → k ≠ g := by
    intro i hi hne k hk
    rcases hw with hw | hw
    · intro e; subst e; exact hne (h.sep i t k hi ht hk hw)
    · have := ((h.own i hi).lt k hk).2
      omega
  refine ⟨?_, h.lt, fun i hi => ?_, fun i j k hi hj h1 h2 => ?_⟩
  · refine (hrow.set t _).congr (fun i hi => ?_)
    simp only [upd]
  · by_cases e : i = t
    · subst e
      rw [upd_same, upd_same]
      have : Own w1 B (.slice (some ⟨g, 0, none⟩) ((L i).length + 1) c) (L i ++ [x]) := by unfold Own; simpa using ho
      exact this.setOther h.lt _
    · rw [upd_other _ _ _ _ e, upd_other _ _ _ _ e]
      refine ((h.own i hi).kept hg ?_).setOther h.lt _
      cases hv : (V i).ownBlock with
      | none => exact .inl rfl
      | some k =>
        right
        intro e2
        exact e (h.sep i t k hi ht hv e2.symm)
  · by_cases ei : i = t <;> by_cases ej : j = t
    · rw [ei, ej]
    · subst ei
      rw [upd_same] at h1
      rw [upd_other _ _ _ _ ej] at h2
      simp only [Value.ownBlock, Option.some.injEq] at h1
      exact absurd h1.symm (hother j hj ej k h2)
    · subst ej
      rw [upd_same] at h2
      rw [upd_other _ _ _ _ ei] at h1
      simp only [Value.ownBlock, Option.some.injEq] at h2
      exact absurd h2.symm (hother i hi ei k h1)
    · rw [upd_other _ _ _ _ ei] at h1
      rw [upd_other _ _ _ _ ej] at h2
      exact h.sep i j k hi hj h1 h2
/-! ### what a world leaves as it was -/
theorem FutS.cell {S : Nat → Bool} {w w' : World} (h : FutS S w w') {a : Addr} {v : Value} (hc : w.cell? a = some v) (hS : S a.block = false) : w'.cell? a = some v :=
  (World.cell?_of_block (h.block a.block (World.block_lt_of_cell? w a hc) hS)).trans hc
theorem FutS.refl {S : Nat → Bool} (w : World) : FutS S w w := (relS S).refl w
theorem FutS.trans {S : Nat → Bool} {a b c : World} (h : FutS S a b) (k : FutS S b c) : FutS S a c := (relS S).trans h k
theorem FutS.then {S : Nat → Bool} {a b c : World} (h : FutS S a b) (k : Fut b c) : FutS S a c := (relS S).trans h ((relS S).of_fut k)
theorem FutS.alloc {S : Nat → Bool} {w w' : World} (h : FutS S w w') (o : Obj) : FutS S w (w'.alloc o) := h.then ((Fut.refl _).alloc o)
theorem FutS.drew {S : Nat → Bool} {w w' : World} (h : FutS S w w') : FutS S w w'.drew := h.then (Fut.refl _).drew
theorem FutS.grown {S : Nat → Bool} {w w' w'' : World} {row : Option Nat} (h : FutS S w w') (hg : w'.grownBy w'' row) (hr : ∀ k, row = some k → S k = true ∨ w.heap.size ≤ k) : FutS S w w'' :=
  ⟨hg.os.trans h.os, hg.tape.trans h.tape, hg.output.trans h.output, Nat.le_trans h.size hg.size, fun k hk hs =>
    (hg.block k (Nat.lt_of_lt_of_le hk h.size) (fun e => by
      rcases hr k e.symm with h1 | h1
      · rw [h1] at hs; cases hs
      · omega)).trans (h.block k hk hs)⟩
theorem FutS.setCell {S : Nat → Bool} {w w' : World} (h : FutS S w w') {a : Addr} (ha : S a.block = true ∨ w.heap.size ≤ a.block) (u : Value) : FutS S w (w'.setCell a u) :=
  h.grown (grown_set w' a u) (fun k hk => by rw [← Option.some.inj hk]; exact ha)
theorem FutS.fut {S : Nat → Bool} {w0 w w' : World} (h : FutS S w w') (h0 : Fut w0 w) (hS : ∀ k, S k = true → w0.heap.size ≤ k) : Fut w0 w' :=
  ⟨h.os.trans h0.os, h.tape.trans h0.tape, h.output.trans h0.output, Nat.le_trans h0.size h.size, fun k hk =>
    (h.block k (Nat.lt_of_lt_of_le hk h0.size) (by
      cases e : S k with
      | false => rfl
      | true => have := hS k e; omega)).trans (h0.block k hk)⟩
/-- behind a slice of slices lie the lists L, all in blocks from lo on -/
def RdL (w : World) (lo u n : Nat) (L : Nat → List Nat) : Prop := lo ≤ u ∧ ∀ i, i < n → ∃ A c, w.cell? ⟨u, i, none⟩ = some (.slice A (L i).length c) ∧ Rd1 w A nv (L i) ∧ ∀ g o, A = some ⟨g, o, none⟩ → lo ≤ g
theorem Uses.rd {w : World} {B u n lo : Nat} {V : Nat → Value} {L : Nat → List Nat} (h : Uses w B u n V L) (hu : lo ≤ u) : RdL w lo u n L := by
  refine ⟨hu, fun i hi => ?_⟩
  obtain ⟨A, c, hv, hA⟩ := (h.own i hi).form
  refine ⟨A, c, by rw [← hv]; exact h.row.cell hi, ?_, ?_⟩
  · have h1 := h.own i hi
    rw [hv] at h1
    exact h1.rd.2
  · intro g o e
    subst e
    have h1 := (h.own i hi).lt g (by rw [hv]; rfl)
    have := h.lt
    omega
theorem RdL.futS {w w' : World} {lo u n : Nat} {L : Nat → List Nat} {S : Nat → Bool} (h : RdL w lo u n L) (hf : FutS S w w') (hS : ∀ k, lo ≤ k → S k = false) : RdL w' lo u n L :=
  ⟨h.1, fun i hi => by
    obtain ⟨A, c, h1, h2, h3⟩ := h.2 i hi
    refine ⟨A, c, hf.cell h1 (hS _ h.1), fun j x hj => ?_, h3⟩
    obtain ⟨b, o, e, hc⟩ := h2 j x hj
    exact ⟨b, o, e, hf.cell hc (hS _ (h3 b o e))⟩⟩
theorem Own.cap {w : World} {B g n c : Nat} {T : List Nat} (h : Own w B (.slice (some ⟨g, 0, none⟩) n c) T) : n ≤ c := by
  unfold Own World.ownsRow at h
  obtain ⟨_, h | ⟨g', cap, cur, hv, h1, h2, h3, h4, h5, h6⟩⟩ := h
  · obtain ⟨hv, hn⟩ := h; simp at hv
  · injection hv with e1 e2 e3
    omega
theorem Own.cut {w : World} {B g m c v : Nat} {T : List Nat} (h : Own w B (.slice (some ⟨g, 0, none⟩) (m + 1) c) (T ++ [v])) : Own w B (.slice (some ⟨g, 0, none⟩) m c) T ∧ T.length = m := by
  unfold Own World.ownsRow at h
  obtain ⟨_, h | ⟨g', cap, cur, hv, h1, h2, h3, h4, h5, h6⟩⟩ := h
  · obtain ⟨hv, hn⟩ := h; simp at hn
  · injection hv with e1 e2 e3
    injection e1 with e1
    injection e1 with e1 _ _
    subst e1 e3
    simp only [List.length_append, List.length_cons, List.length_nil] at e2 h3 h6
    have hm : T.length = m := by omega
    refine ⟨⟨by simp, .inr ⟨g, c, cur, by rw [hm], h1, h2, by omega, h4, h5, ?_⟩⟩, hm⟩
    have := congrArg (List.take T.length) h6
    rw [List.take_take, List.map_append, List.take_left' (by simp)] at this
    rw [← this]
    congr 1
    omega
section
variable {w : World} {ops : Array Oper} {rest : List Oper} {o : Oper} {a : Act} {Q : Exit → Act → World → Prop}
/-- one number is appended to a slice of the call's own -/
theorem wpList_push (hgd : o.guard = none) (s x : Operand) (ho : o.op = .call { callee := .builtin .append, args := #[s, x], argTypes := #[32, 32] })
    (B : Nat) (v : Value) (T : List Nat) (hs : a.eval s = v) (hown : Own w B v T) (b t : Nat) (hx : a.eval x = .slice (some ⟨b, 0, none⟩) 1 1) (hb : w.heap[b]? = some (.cells #[nv t] 3 (0, 0)))
    (hlen : T.length ≤ 17000000000000) (hB : B ≤ w.heap.size)
    (h : ∀ g cap w', Own w' B (.slice (some ⟨g, 0, none⟩) (T.length + 1) cap) (T ++ [t]) → w.grownBy w' v.ownBlock → (v.ownBlock = some g ∨ g = w.heap.size) → wpList Try.prog ops Q rest (a.put o.dst (.slice (some ⟨g, 0, none⟩) (T.length + 1) cap)) w') :
    wpList Try.prog ops Q (o :: rest) a w := by
  obtain ⟨i1, ki, kz0, kz1, kz2⟩ := info_parts info_int
  refine wpList_append_lies _ hgd s x 32 ho B 3 i1 (.int .i64 0) 1 8 Try.underlying32 ki kz0 kz1 kz2 rfl (by decide) v T.length (T.map nv) hs hown ⟨b, 0, none⟩ 1 1 [nv t] hx rfl ?_ ?_ (by decide) ?_ ?_ hB w.heap.size rfl ?_
  · exact World.news_of_block (cs := #[nv t]) hb
  · intro u hu; simp only [List.mem_singleton] at hu; subst hu; rfl
  · unfold maxLen; omega
  · omega
  · intro g cap w' h1 h2 h3 _
    refine h g cap w' ?_ h2 h3
    unfold Own
    simpa using h1
end
end Go.Proofs.Ytjoejkfchnooaaa
