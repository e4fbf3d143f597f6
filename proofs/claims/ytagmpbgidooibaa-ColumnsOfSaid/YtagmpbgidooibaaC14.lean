/-
  A row of columns of the call's own, each with a row of numbers elsewhere; one column appended.
-/
import Derived.Test.YtagmpbgidooibaaC13
import Derived.Deep.AppendLies
namespace Go.Proofs.Ytagmpbgidooibaa
open Go.RowKit Go.Deep
attribute [local go_sem] Oper.lit Oper.litS fut_fut fut_drew World.cell?_alloc_some
theorem info_col : (Try.prog.info? 51).map (fun i => (i.zero, i.size, i.bytes)) = some (some (.agg #[.int .i64 0, .slice none 0 0, .int .i64 0]), 3, 40) := by kernel_rfl
theorem encC_len (c : CC) : (encC c).length = 3 := rfl
structure OwnC (w : World) (B : Nat) (v : Value) (cs : List CC) : Prop where
  own : w.ownsRow B 51 3 v cs.length (cs.flatMap encC)
  rd : ∀ c ∈ cs, Rd1 w c.A (.int .i64 ·) c.r ∧ c.r.length ≤ maxLen
  far : ∀ c ∈ cs, ∀ b o q, c.A = some ⟨b, o, q⟩ → (B ≤ b ∧ b < w.heap.size) ∧ v.ownBlock ≠ some b
theorem OwnC.nil (w : World) (B : Nat) : OwnC w B (.slice none 0 0) [] := ⟨World.ownsRow_nil _ _ _ _, fun _ h => by simp at h, fun _ h => by simp at h⟩
theorem OwnC.lt {w : World} {B : Nat} {v : Value} {cs : List CC} (h : OwnC w B v cs) : ∀ k, v.ownBlock = some k → B ≤ k ∧ k < w.heap.size := World.ownsRow.lt h.own
theorem OwnC.fut {w w' : World} {B : Nat} {v : Value} {cs : List CC} (h : OwnC w B v cs) (hf : Fut w w') : OwnC w' B v cs := by
  refine ⟨?_, fun c hc => ⟨(h.rd c hc).1.fut hf, (h.rd c hc).2⟩, fun c hc b o q e => ⟨⟨(h.far c hc b o q e).1.1, Nat.lt_of_lt_of_le (h.far c hc b o q e).1.2 hf.size⟩, (h.far c hc b o q e).2⟩⟩
  have h0 := h.own
  unfold World.ownsRow at h0 ⊢
  obtain ⟨h1, h2 | ⟨g, cap, cur, h2, h3, h4, h5⟩⟩ := h0
  · exact ⟨h1, .inl h2⟩
  · exact ⟨h1, .inr ⟨g, cap, cur, h2, h3, (hf.block g (Array.getElem?_eq_some_iff.1 h4).1).trans h4, h5⟩⟩
theorem Rd1.far {w w' : World} {A : Option Addr} {l : List Int} {row : Option Nat} (h : Rd1 w A (Value.int .i64 ·) l) (hg : w.grownBy w' row) (hne : ∀ b o q, A = some ⟨b, o, q⟩ → b < w.heap.size ∧ row ≠ some b) : Rd1 w' A (Value.int .i64 ·) l := by
  intro i a hi
  obtain ⟨b, o, e, hc⟩ := h i a hi
  obtain ⟨h1, h2⟩ := hne b o _ e
  exact ⟨b, o, e, (hg.cell_far ⟨b, o + i, none⟩ h1 (fun e => h2 e.symm)).trans hc⟩
theorem OwnC.push {w w' : World} {B : Nat} {v : Value} {cs : List CC} {cc : CC} {g cap : Nat} (h : OwnC w B v cs)
    (hown : w'.ownsRow B 51 3 (.slice (some ⟨g, 0, none⟩) (cs.length + 1) cap) (cs.length + 1) (cs.flatMap encC ++ encC cc)) (hg : w.grownBy w' v.ownBlock) (hw : v.ownBlock = some g ∨ g = w.heap.size)
    (hr : Rd1 w cc.A (.int .i64 ·) cc.r) (hl : cc.r.length ≤ maxLen) (hf : ∀ b o q, cc.A = some ⟨b, o, q⟩ → (B ≤ b ∧ b < w.heap.size) ∧ v.ownBlock ≠ some b) : OwnC w' B (.slice (some ⟨g, 0, none⟩) (cs.length + 1) cap) (cs ++ [cc]) := by
  have hall : ∀ c ∈ cs ++ [cc], (Rd1 w c.A (Value.int .i64 ·) c.r ∧ c.r.length ≤ maxLen) ∧ ∀ b o q, c.A = some ⟨b, o, q⟩ → (B ≤ b ∧ b < w.heap.size) ∧ v.ownBlock ≠ some b := by
    intro c hc
    rcases List.mem_append.1 hc with hc | hc
    · exact ⟨h.rd c hc, h.far c hc⟩
    · simp only [List.mem_singleton] at hc
      subst hc
      exact ⟨⟨hr, hl⟩, hf⟩
  refine ⟨by simpa using hown, fun c hc => ⟨((hall c hc).1.1).far hg (fun b o q e => ⟨((hall c hc).2 b o q e).1.2, ((hall c hc).2 b o q e).2⟩), (hall c hc).1.2⟩, fun c hc b o q e => ?_⟩
  obtain ⟨h1, h2⟩ := (hall c hc).2 b o q e
  refine ⟨⟨h1.1, Nat.lt_of_lt_of_le h1.2 hg.size⟩, ?_⟩
  simp only [Value.ownBlock, ne_eq, Option.some.injEq]
  intro e2
  subst e2
  rcases hw with hw | hw
  · exact h2 hw
  · omega
theorem grown_set (w : World) (a : Addr) (u : Value) : w.grownBy (w.setCell a u) (some a.block) :=
  ⟨rfl, rfl, rfl, by simp [World.setCell], fun k _ hk => Below.heap_setCell w a u k (fun e => hk (by rw [e]))⟩
theorem OwnC.setOther {w : World} {B : Nat} {v : Value} {cs : List CC} (h : OwnC w B v cs) {a : Addr} (ha : a.block < B) (u : Value) : OwnC (w.setCell a u) B v cs := by
  refine ⟨World.ownsRow.kept h.own (grown_set w a u) ?_, fun c hc => ⟨(h.rd c hc).1.far (grown_set w a u) (fun b o q e => ⟨(h.far c hc b o q e).1.2, fun e2 => ?_⟩), (h.rd c hc).2⟩, fun c hc b o q e => ⟨⟨(h.far c hc b o q e).1.1, by have := (h.far c hc b o q e).1.2; simpa [World.setCell] using this⟩, (h.far c hc b o q e).2⟩⟩
  · cases hv : v.ownBlock with
    | none => exact .inl rfl
    | some k =>
      right
      have := (h.lt k hv).1
      intro e
      have := Option.some.inj e
      omega
  · have := (h.far c hc b o q e).1.1
    have := Option.some.inj e2
    omega
theorem OwnC.sets {w : World} {B b : Nat} {v : Value} {cs : List CC} (h : OwnC w B v cs) (hb : b < B) (u0 u1 u2 : Value) : OwnC (((w.setCell ⟨b, 0, none⟩ u0).setCell ⟨b, 1, none⟩ u1).setCell ⟨b, 2, none⟩ u2) B v cs :=
  ((h.setOther hb _).setOther hb _).setOther hb _
/-- the slice that owns, and the reading -/
theorem OwnC.form {w : World} {B : Nat} {v : Value} {cs : List CC} (h : OwnC w B v cs) : ∃ A c, v = .slice A cs.length c ∧ RdC w A cs := by
  have h0 := h.own
  unfold World.ownsRow at h0
  obtain ⟨_, h1 | ⟨g, cap, cur, h1, _⟩⟩ := h0
  · obtain ⟨hv, hn⟩ := h1
    have : cs = [] := List.length_eq_zero_iff.1 hn
    subst this
    exact ⟨none, 0, hv, RdS.nil, fun _ h => by simp at h⟩
  · refine ⟨some ⟨g, 0, none⟩, cap, h1, ?_, h.rd⟩
    have h2 := h.own
    rw [h1] at h2
    exact RdS.of_own encC_len (by decide) h2
end Go.Proofs.Ytagmpbgidooibaa
