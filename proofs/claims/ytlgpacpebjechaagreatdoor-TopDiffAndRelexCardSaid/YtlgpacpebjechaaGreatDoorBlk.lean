/-
  Blocks of cells of the call's own: what they hold, what keeps it.
-/
import Derived.Test.YtlgpacpebjechaaGreatDoorMem
import Derived.Deep.Heap
import Derived.Laws.Rows
import Derived.Laws.AppendOwn
import Derived.Maps.Own
namespace Go.Proofs.YtlgpacpebjechaaGreatDoor
open Go.RowKit Go.Deep
theorem heap_new' (w : World) (o : Obj) (b : Nat) (h : b = w.heap.size) : (w.alloc o).heap[b]? = some o := by subst h; exact heap_alloc_new _ _
theorem grown_set (w : World) (a : Addr) (u : Value) : w.grownBy (w.setCell a u) (some a.block) :=
  ⟨rfl, rfl, rfl, by simp [World.setCell], fun k _ hk => Below.heap_setCell w a u k (fun e => hk (by rw [e]))⟩
/-- block b of w: cells cs, none of them frozen -/
def Blk (w : World) (b : Nat) (t : TypeId) (cs : Array Value) : Prop := w.heap[b]? = some (.cells cs t (0, 0))
section
variable {w w' : World} {b : Nat} {t : TypeId} {cs : Array Value}
theorem Blk.cell (h : Blk w b t cs) {i : Nat} {v : Value} (hi : cs[i]? = some v) : w.cell? ⟨b, i, none⟩ = some v := (cell_of_row w b i _ _ _ h).trans hi
theorem Blk.fz (h : Blk w b t cs) (i : Nat) : w.frozen? ⟨b, i, none⟩ = false := by unfold Blk at h; unfold World.frozen?; rw [h]; simp
theorem Blk.lt (h : Blk w b t cs) : b < w.heap.size := (Array.getElem?_eq_some_iff.1 h).1
theorem Blk.fut (h : Blk w b t cs) (hf : Fut w w') : Blk w' b t cs := (hf.block b h.lt).trans h
theorem Blk.set (h : Blk w b t cs) (i : Nat) (v : Value) : Blk (w.setCell ⟨b, i, none⟩ v) b t (cs.setIfInBounds i v) := by
  unfold Blk at *
  simp [World.setCell, Array.getElem?_modify, h]
theorem Blk.setOther (h : Blk w b t cs) {a : Addr} (ha : b ≠ a.block) (v : Value) : Blk (w.setCell a v) b t cs := (blk_setCell_other _ _ _ _ ha).trans h
theorem Blk.alloc (h : Blk w b t cs) (o : Obj) : Blk (w.alloc o) b t cs := h.fut ((Fut.refl w).alloc o)
theorem Blk.drew (h : Blk w b t cs) : Blk w.drew b t cs := h
theorem Blk.new (w : World) (t : TypeId) (cs : Array Value) : Blk (w.alloc (.cells cs t)) w.heap.size t cs := heap_new' _ _ _ rfl
theorem Blk.grown {row : Option Nat} (h : Blk w b t cs) (hg : w.grownBy w' row) (hb : some b ≠ row) : Blk w' b t cs := (hg.block b h.lt hb).trans h
theorem Blk.futS {S : Nat → Bool} (h : Blk w b t cs) (hf : FutS S w w') (hb : S b = false) : Blk w' b t cs := (hf.block b h.lt hb).trans h
end
theorem futS_set {S : Nat → Bool} (w : World) (a : Addr) (v : Value) (h : S a.block = true) : FutS S w (w.setCell a v) :=
  ⟨rfl, rfl, rfl, by simp [World.setCell], fun k _ hk => blk_setCell_other _ _ _ _ (fun e => by rw [e, h] at hk; cases hk)⟩
/-! ### what a world leaves as it was -/
theorem FutS.cell {S : Nat → Bool} {w w' : World} (h : FutS S w w') {a : Addr} {v : Value} (hc : w.cell? a = some v) (hS : S a.block = false) : w'.cell? a = some v :=
  (World.cell?_of_block (h.block a.block (World.block_lt_of_cell? w a hc) hS)).trans hc
theorem FutS.refl {S : Nat → Bool} (w : World) : FutS S w w := (relS S).refl w
theorem FutS.trans {S : Nat → Bool} {a b c : World} (h : FutS S a b) (k : FutS S b c) : FutS S a c := (relS S).trans h k
theorem FutS.of {S : Nat → Bool} {a b : World} (k : Fut a b) : FutS S a b := (relS S).of_fut k
theorem FutS.then {S : Nat → Bool} {a b c : World} (h : FutS S a b) (k : Fut b c) : FutS S a c := (relS S).trans h ((relS S).of_fut k)
theorem FutS.alloc {S : Nat → Bool} {w w' : World} (h : FutS S w w') (o : Obj) : FutS S w (w'.alloc o) := h.then ((Fut.refl _).alloc o)
theorem FutS.drew {S : Nat → Bool} {w w' : World} (h : FutS S w w') : FutS S w w'.drew := h.then (Fut.refl _).drew
theorem FutS.grown {S : Nat → Bool} {w w' w'' : World} {row : Option Nat} (h : FutS S w w') (hg : w'.grownBy w'' row) (hr : ∀ k, row = some k → S k = true ∨ w.heap.size ≤ k) : FutS S w w'' :=
  ⟨hg.os.trans h.os, hg.tape.trans h.tape, hg.output.trans h.output, Nat.le_trans h.size hg.size, fun k hk hs =>
    (hg.block k (Nat.lt_of_lt_of_le hk h.size) (fun e => by
      rcases hr k e.symm with h1 | h1
      · rw [h1] at hs; cases hs
      · omega)).trans (h.block k hk hs)⟩
theorem FutS.setCell {S : Nat → Bool} {w w' : World} (h : FutS S w w') {a : Addr} (ha : S a.block = true ∨ w.heap.size ≤ a.block) (u : Value) : FutS S w (w'.setCell a u) :=
  h.grown (grown_set w' a u) (fun k hk => by rw [← Option.some.inj hk]; exact ha)
theorem FutS.fut {S : Nat → Bool} {w0 w w' : World} (h : FutS S w w') (h0 : Fut w0 w) (hS : ∀ k, S k = true → w0.heap.size ≤ k) : Fut w0 w' :=
  ⟨h.os.trans h0.os, h.tape.trans h0.tape, h.output.trans h0.output, Nat.le_trans h0.size h.size, fun k hk =>
    (h.block k (Nat.lt_of_lt_of_le hk h0.size) (by
      cases e : S k with
      | false => rfl
      | true => have := hS k e; omega)).trans (h0.block k hk)⟩
/-- what is changed is elsewhere -/
theorem FutS.mono {S T : Nat → Bool} {w w' : World} (h : FutS S w w') (hST : ∀ k, S k = true → T k = true ∨ w.heap.size ≤ k) : FutS T w w' :=
  ⟨h.os, h.tape, h.output, h.size, fun k hk hT => h.block k hk (by
    cases e : S k with
    | false => rfl
    | true =>
      rcases hST k e with h1 | h1
      · rw [h1] at hT; cases hT
      · omega)⟩
theorem FutS.grownS {S : Nat → Bool} {w w' : World} {row : Option Nat} (hg : w.grownBy w' row) (hr : ∀ k, row = some k → S k = true) : FutS S w w' :=
  (FutS.refl w).grown hg (fun k hk => .inl (hr k hk))
end Go.Proofs.YtlgpacpebjechaaGreatDoor
