/-
  Derivable, walked.
-/
import Derived.Test.YtjoejkfchnooaaaHdp
import Derived.Lib.SmallJoins
namespace Go.Proofs.Ytjoejkfchnooaaa
open Go.RowKit
attribute [local go_sem] Oper.lit Oper.litS fut_fut fut_drew World.cell?_alloc_some
/-- what Derivable has laid in memory: the blocks from b on -/
structure DH (w : World) (b N n : Nat) (A : Option Addr) (c : Nat) (wr : World) (O : Nat → Bool) (Mi : Nat → Nat) (V : Nat → Value) (L : Nat → List Nat) (tv : Value) (T : List Nat) : Prop where
  hb : w.heap.size ≤ b
  fut : Fut w wr
  sz : b + 6 ≤ wr.heap.size
  hbox : wr.cell? ⟨b, 1, none⟩ = some (.slice A n c)
  out : wr.rowIs (b + 1) 4 N (fun i => .bool (O i))
  obox : wr.cell? ⟨b + 2, 0, none⟩ = some (.slice (some ⟨b + 1, 0, none⟩) N N)
  mis : wr.rowIs (b + 3) 3 n (fun i => nv (Mi i))
  use : Uses wr (b + 6) (b + 4) N V L
  tbox : wr.heap[b + 5]? = some (.cells #[tv] 32 (0, 0))
  todo : Own wr (b + 6) tv T
  sep : ∀ i, i < N → ∀ g, (V i).ownBlock = some g → tv.ownBlock ≠ some g
section
variable {w wr : World} {b N n : Nat} {A : Option Addr} {c : Nat} {O : Nat → Bool} {Mi : Nat → Nat} {V : Nat → Value} {L : Nat → List Nat} {tv : Value} {T : List Nat}
theorem DH.drew (h : DH w b N n A c wr O Mi V L tv T) : DH w b N n A c wr.drew O Mi V L tv T :=
  ⟨h.hb, h.fut.drew, h.sz, h.hbox, h.out.drew, h.obox, h.mis.drew, h.use.drew, h.tbox, h.todo.drew, h.sep⟩
theorem DH.alloc (h : DH w b N n A c wr O Mi V L tv T) (o : Obj) : DH w b N n A c (wr.alloc o) O Mi V L tv T :=
  ⟨h.hb, h.fut.alloc o, by rw [World.size_alloc]; have := h.sz; omega, ((Fut.refl _).alloc o).cell h.hbox, h.out.alloc o, ((Fut.refl _).alloc o).cell h.obox, h.mis.alloc o, h.use.alloc o,
   (Below.heap_alloc _ _ _ (by have := h.sz; omega)).trans h.tbox, h.todo.alloc o, h.sep⟩
theorem cell_set {w : World} {a p : Addr} {u v : Value} (h : w.cell? p = some v) (hne : p.block ≠ a.block) : (w.setCell a u).cell? p = some v :=
  (World.cell?_of_block (Below.heap_setCell w a u p.block hne)).trans h
/-- a store into out -/
theorem DH.setOut (h : DH w b N n A c wr O Mi V L tv T) (i : Nat) (x : Bool) : DH w b N n A c (wr.setCell ⟨b + 1, i, none⟩ (.bool x)) (upd O i x) Mi V L tv T :=
  ⟨h.hb, h.fut.setCell (by have := h.hb; simp only; omega) _, by rw [World.size_setCell]; exact h.sz, cell_set h.hbox (by simp), row_upd (f := Value.bool) h.out, cell_set h.obox (by simp), h.mis.setOther (by simp) _, h.use.setOther (by simp only; omega) (by simp) _,
   (Below.heap_setCell _ _ _ _ (by simp)).trans h.tbox, h.todo.setOther (by simp only; omega) _, h.sep⟩
/-- a store into missing -/
theorem DH.setMis (h : DH w b N n A c wr O Mi V L tv T) (i x : Nat) : DH w b N n A c (wr.setCell ⟨b + 3, i, none⟩ (nv x)) O (upd Mi i x) V L tv T :=
  ⟨h.hb, h.fut.setCell (by have := h.hb; simp only; omega) _, by rw [World.size_setCell]; exact h.sz, cell_set h.hbox (by simp), h.out.setOther (by simp) _, cell_set h.obox (by simp), row_upd (f := nv) h.mis, h.use.setOther (by simp only; omega) (by simp) _,
   (Below.heap_setCell _ _ _ _ (by simp)).trans h.tbox, h.todo.setOther (by simp only; omega) _, h.sep⟩
/-- todo takes another value (a part of the one that it was) -/
theorem DH.setTodo (h : DH w b N n A c wr O Mi V L tv T) (tv2 : Value) (T2 : List Nat) (ho : Own wr (b + 6) tv2 T2) (hs : ∀ i, i < N → ∀ g, (V i).ownBlock = some g → tv2.ownBlock ≠ some g) : DH w b N n A c (wr.setCell ⟨b + 5, 0, none⟩ tv2) O Mi V L tv2 T2 :=
  ⟨h.hb, h.fut.setCell (by have := h.hb; simp only; omega) _, by rw [World.size_setCell]; exact h.sz, cell_set h.hbox (by simp), h.out.setOther (by simp) _, cell_set h.obox (by simp), h.mis.setOther (by simp) _, h.use.setOther (by simp only; omega) (by simp) _,
   one_setCell h.tbox, ho.setOther (by simp only; omega) _, hs⟩
/-- todo has been appended to -/
theorem DH.pushTodo (h : DH w b N n A c wr O Mi V L tv T) {w2 : World} {g cp v : Nat} (ho : Own w2 (b + 6) (.slice (some ⟨g, 0, none⟩) (T.length + 1) cp) (T ++ [v])) (hg : wr.grownBy w2 tv.ownBlock) (hw : tv.ownBlock = some g ∨ g = wr.heap.size) :
    DH w b N n A c (w2.setCell ⟨b + 5, 0, none⟩ (.slice (some ⟨g, 0, none⟩) (T.length + 1) cp)) O Mi V L (.slice (some ⟨g, 0, none⟩) (T.length + 1) cp) (T ++ [v]) := by
  have hlt := h.todo.lt
  have hne : ∀ k, k < b + 6 → some k ≠ tv.ownBlock := fun k hk e => by have := (hlt k e.symm).1; omega
  have hsz := h.sz
  have hbl : ∀ k, k < b + 6 → w2.heap[k]? = wr.heap[k]? := fun k hk => hg.block k (by omega) (hne k hk)
  have hce : ∀ (p : Addr) (v : Value), p.block < b + 6 → wr.cell? p = some v → w2.cell? p = some v := fun p v hp hc => (World.cell?_of_block (hbl _ hp)).trans hc
  have h1 : DH w b N n A c w2 O Mi V L tv T → False ∨ True := fun _ => .inr trivial
  have huse : Uses w2 (b + 6) (b + 4) N V L := h.use.kept hg (fun e => hne (b + 4) (by omega) e.symm) (fun i hi => by
    cases hv : (V i).ownBlock with
    | none => exact .inl rfl
    | some k => right; intro e; exact h.sep i hi k hv e.symm)
  refine ⟨h.hb, (Below.grown h.fut hg (by have := h.hb; omega) (fun k hk => by have := (hlt k hk).1; have := h.hb; omega)).setCell (by have := h.hb; simp only; omega) _, by rw [World.size_setCell]; have := hg.size; omega,
    cell_set (hce _ _ (by simp only; omega) h.hbox) (by simp), (h.out.of_block (hbl _ (by omega))).setOther (by simp) _, cell_set (hce _ _ (by simp only; omega) h.obox) (by simp), (h.mis.of_block (hbl _ (by omega))).setOther (by simp) _,
    huse.setOther (by simp only; omega) (by simp) _, one_setCell ((hbl _ (by omega)).trans h.tbox), ho.setOther (by simp only; omega) _, fun i hi k hk e => ?_⟩
  simp only [Value.ownBlock, Option.some.injEq] at e
  subst e
  rcases hw with hw | hw
  · exact h.sep i hi g hk hw
  · have := ((h.use.own i hi).lt g hk).2
    omega
/-- a use has been noted -/
theorem DH.pushUse (h : DH w b N n A c wr O Mi V L tv T) {w2 : World} {g cp t x : Nat} (ht : t < N) (ho : Own w2 (b + 6) (.slice (some ⟨g, 0, none⟩) ((L t).length + 1) cp) (L t ++ [x])) (hg : wr.grownBy w2 (V t).ownBlock) (hw : (V t).ownBlock = some g ∨ g = wr.heap.size) :
    DH w b N n A c (w2.setCell ⟨b + 4, t, none⟩ (.slice (some ⟨g, 0, none⟩) ((L t).length + 1) cp)) O Mi (upd V t (.slice (some ⟨g, 0, none⟩) ((L t).length + 1) cp)) (upd L t (L t ++ [x])) tv T := by
  have hlt := (h.use.own t ht).lt
  have hne : ∀ k, k < b + 6 → some k ≠ (V t).ownBlock := fun k hk e => by have := (hlt k e.symm).1; omega
  have hsz := h.sz
  have hbl : ∀ k, k < b + 6 → w2.heap[k]? = wr.heap[k]? := fun k hk => hg.block k (by omega) (hne k hk)
  have hce : ∀ (p : Addr) (v : Value), p.block < b + 6 → wr.cell? p = some v → w2.cell? p = some v := fun p v hp hc => (World.cell?_of_block (hbl _ hp)).trans hc
  have htd : Own w2 (b + 6) tv T := h.todo.kept hg (by
    cases hv : tv.ownBlock with
    | none => exact .inl rfl
    | some k => right; intro e; exact h.sep t ht k e.symm hv)
  refine ⟨h.hb, (Below.grown h.fut hg (by have := h.hb; omega) (fun k hk => by have := (hlt k hk).1; have := h.hb; omega)).setCell (by have := h.hb; simp only; omega) _, by rw [World.size_setCell]; have := hg.size; omega,
    cell_set (hce _ _ (by simp only; omega) h.hbox) (by simp), (h.out.of_block (hbl _ (by omega))).setOther (by simp) _, cell_set (hce _ _ (by simp only; omega) h.obox) (by simp), (h.mis.of_block (hbl _ (by omega))).setOther (by simp) _,
    h.use.push (by omega) ht (by have := ho; unfold Own at this; simpa using this) hg hw, (Below.heap_setCell _ _ _ _ (by simp)).trans ((hbl _ (by omega)).trans h.tbox), htd.setOther (by simp only; omega) _, fun i hi k hk e => ?_⟩
  by_cases ei : i = t
  · subst ei
    rw [upd_same] at hk
    simp only [Value.ownBlock, Option.some.injEq] at hk
    subst hk
    rcases hw with hw | hw
    · exact h.sep i hi g hw e
    · have := (h.todo.lt g e).2
      omega
  · rw [upd_other _ _ _ _ ei] at hk
    exact h.sep i hi k hk e
end
end Go.Proofs.Ytjoejkfchnooaaa
