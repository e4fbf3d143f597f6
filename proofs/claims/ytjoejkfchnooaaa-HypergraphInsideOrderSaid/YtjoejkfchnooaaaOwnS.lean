/-
  A slice of strings of the call's own.
-/
import Derived.Test.YtjoejkfchnooaaaOwn
import Derived.Test.YtjoejkfchnooaaaHins
namespace Go.Proofs.Ytjoejkfchnooaaa
open Go.RowKit
/-- the slice value v owns a row of strings, xs, among the blocks from B on -/
def OwnS (w : World) (B : Nat) (v : Value) (xs : List ByteArray) : Prop := w.ownsRow B 9 1 v xs.length (xs.map Value.string)
theorem OwnS.nil (w : World) (B : Nat) : OwnS w B (.slice none 0 0) [] := World.ownsRow_nil _ _ _ _
theorem OwnS.alloc {w : World} {B : Nat} {v : Value} {xs : List ByteArray} (h : OwnS w B v xs) (o : Obj) : OwnS (w.alloc o) B v xs := World.ownsRow.alloc h o
theorem OwnS.lt {w : World} {B : Nat} {v : Value} {xs : List ByteArray} (h : OwnS w B v xs) : ∀ k, v.ownBlock = some k → B ≤ k ∧ k < w.heap.size := World.ownsRow.lt h
theorem OwnS.rd {w : World} {B : Nat} {A : Option Addr} {n c : Nat} {xs : List ByteArray} (h : OwnS w B (.slice A n c) xs) : n = xs.length ∧ Rd1 w A Value.string xs := by
  have h0 := h
  unfold OwnS World.ownsRow at h
  obtain ⟨_, h | ⟨g, cap, cur, hv, _⟩⟩ := h
  · obtain ⟨hv, hn⟩ := h
    injection hv with h1 h2 h3
    cases xs with
    | nil => exact ⟨by simp [h2], Rd1.nil⟩
    | cons x xs => simp at hn
  · injection hv with h1 h2 h3
    subst h2
    exact ⟨rfl, Rd1.of_own (f := Value.string) (l := xs) h0⟩
theorem OwnS.form {w : World} {B : Nat} {v : Value} {xs : List ByteArray} (h : OwnS w B v xs) : ∃ A c, v = .slice A xs.length c ∧ (A = none ∧ xs = [] ∨ ∃ g, A = some ⟨g, 0, none⟩) := by
  unfold OwnS World.ownsRow at h
  obtain ⟨_, h | ⟨g, cap, cur, hv, _⟩⟩ := h
  · obtain ⟨hv, hn⟩ := h
    cases xs with
    | nil => exact ⟨none, 0, hv, .inl ⟨rfl, rfl⟩⟩
    | cons x xs => simp at hn
  · exact ⟨_, _, hv, .inr ⟨g, rfl⟩⟩
section
variable {w : World} {ops : Array Oper} {rest : List Oper} {o : Oper} {a : Act} {Q : Exit → Act → World → Prop}
/-- one string is appended to a slice of the call's own -/
theorem wpList_pushS (hgd : o.guard = none) (s x : Operand) (ho : o.op = .call { callee := .builtin .append, args := #[s, x], argTypes := #[45, 45] })
    (B : Nat) (v : Value) (T : List ByteArray) (hs : a.eval s = v) (hown : OwnS w B v T) (b : Nat) (t : ByteArray) (hx : a.eval x = .slice (some ⟨b, 0, none⟩) 1 1) (hb : w.heap[b]? = some (.cells #[.string t] 9 (0, 0)))
    (hlen : T.length ≤ 1000000) (hB : B ≤ w.heap.size)
    (h : ∀ g cap w', OwnS w' B (.slice (some ⟨g, 0, none⟩) (T.length + 1) cap) (T ++ [t]) → w.grownBy w' v.ownBlock → (v.ownBlock = some g ∨ g = w.heap.size) → wpList Try.prog ops Q rest (a.put o.dst (.slice (some ⟨g, 0, none⟩) (T.length + 1) cap)) w') :
    wpList Try.prog ops Q (o :: rest) a w := by
  obtain ⟨i1, ki, kz0, kz1, kz2⟩ := info_parts info_str
  refine wpList_append_lies _ hgd s x 45 ho B 9 i1 (.string ByteArray.empty) 1 16 Try.underlying45 ki kz0 kz1 kz2 rfl (by decide) v T.length (T.map Value.string) hs hown ⟨b, 0, none⟩ 1 1 [.string t] hx rfl ?_ ?_ (by decide) ?_ ?_ hB w.heap.size rfl ?_
  · exact World.news_of_block (cs := #[.string t]) hb
  · intro u hu; simp only [List.mem_singleton] at hu; subst hu; rfl
  · unfold maxLen; omega
  · omega
  · intro g cap w' h1 h2 h3 _
    refine h g cap w' ?_ h2 h3
    unfold OwnS
    simpa using h1
end
end Go.Proofs.Ytjoejkfchnooaaa
