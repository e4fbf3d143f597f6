/-
  The edits that Diff makes: their row in memory.
-/
import Derived.Test.YtlgpacpebjechaaGreatDoorBN
import Derived.Test.YtlgpacpebjechaaGreatDoorLx3
import Derived.Test.YtlgpacpebjechaaGreatDoorBO
namespace Go.Proofs.YtlgpacpebjechaaGreatDoor
open Go.RowKit Go.Deep PLX
attribute [local go_sem] Oper.lit Oper.litS fut_fut fut_drew World.cell?_alloc_some
def EI.ed (e : EI) : Ed := ⟨e.a, e.d, bl e.s⟩
theorem encE_len (t : EI) : (encE t).length = 3 := rfl
theorem info_edit : (Tryz.prog.info? 57).map (fun i => (i.zero, i.size, i.bytes)) = some (some (.agg #[.int .i64 0, .int .i64 0, .string ⟨#[]⟩]), 3, 32) := by kernel_rfl
/-- the slice value v owns a row of edits -/
def OwnE (w : World) (B : Nat) (v : Value) (xs : List EI) : Prop := w.ownsRow B 57 3 v xs.length (xs.flatMap encE)
theorem OwnE.nil (w : World) (B : Nat) : OwnE w B (.slice none 0 0) [] := World.ownsRow_nil _ _ _ _
theorem OwnE.alloc {w : World} {B : Nat} {v : Value} {xs : List EI} (h : OwnE w B v xs) (o : Obj) : OwnE (w.alloc o) B v xs := World.ownsRow.alloc h o
theorem OwnE.lt {w : World} {B : Nat} {v : Value} {xs : List EI} (h : OwnE w B v xs) : ∀ k, v.ownBlock = some k → B ≤ k ∧ k < w.heap.size := World.ownsRow.lt h
theorem OwnE.form {w : World} {B : Nat} {v : Value} {xs : List EI} (h : OwnE w B v xs) : ∃ A c, v = .slice A xs.length c := by
  unfold OwnE World.ownsRow at h
  obtain ⟨_, h | ⟨g, cap, cur, hv, _⟩⟩ := h
  · obtain ⟨hv, hn⟩ := h
    cases xs with
    | nil => exact ⟨none, 0, hv⟩
    | cons x xs => simp at hn
  · exact ⟨_, _, hv⟩
theorem OwnE.rd {w : World} {B : Nat} {A : Option Addr} {n c : Nat} {xs : List EI} (h : OwnE w B (.slice A n c) xs) : RdS w A 3 encE xs := by
  obtain ⟨A', c', e⟩ := h.form
  have e1 : n = xs.length := by simp only [Value.slice.injEq] at e; exact e.2.1
  subst e1
  exact RdS.of_own encE_len (by decide) h
theorem OwnE.futS {S : Nat → Bool} {w w' : World} {B : Nat} {v : Value} {xs : List EI} (h : OwnE w B v xs) (hf : FutS S w w') (hS : ∀ k, v.ownBlock = some k → S k = false) : OwnE w' B v xs := by
  refine ⟨h.1, ?_⟩
  rcases h.2 with hn | ⟨g, cap, cur, rfl, hb, hg, rest⟩
  · exact .inl hn
  · exact .inr ⟨g, cap, cur, rfl, hb, (hf.block g (Array.getElem?_eq_some_iff.1 hg).1 (hS g rfl)).trans hg, rest⟩
theorem OwnE.fut {w w' : World} {B : Nat} {v : Value} {xs : List EI} (h : OwnE w B v xs) (hf : Fut w w') : OwnE w' B v xs := h.futS (S := fun _ => false) (FutS.of hf) (fun _ _ => rfl)
section
variable {w : World} {ops : Array Oper} {rest : List Oper} {o : Oper} {a : Act} {Q : Exit → Act → World → Prop}
/-- one edit is appended to a slice of the call's own -/
theorem wpList_pushE (hgd : o.guard = none) (s x : Operand) (ho : o.op = .call { callee := .builtin .append, args := #[s, x], argTypes := #[50, 50] })
    (B : Nat) (v : Value) (T : List EI) (hs : a.eval s = v) (hown : OwnE w B v T) (b : Nat) (t : EI) (hx : a.eval x = .slice (some ⟨b, 0, none⟩) 1 1) (hb : w.heap[b]? = some (.cells (encE t).toArray 57 (0, 0)))
    (hlen : T.length ≤ 100000000000) (hB : B ≤ w.heap.size)
    (h : ∀ g cap w', OwnE w' B (.slice (some ⟨g, 0, none⟩) (T.length + 1) cap) (T ++ [t]) → w.grownBy w' v.ownBlock → (v.ownBlock = some g ∨ g = w.heap.size) → wpList Tryz.prog ops Q rest (a.put o.dst (.slice (some ⟨g, 0, none⟩) (T.length + 1) cap)) w') :
    wpList Tryz.prog ops Q (o :: rest) a w := by
  obtain ⟨i1, ki, kz0, kz1, kz2⟩ := info_parts info_edit
  refine wpList_append_lies _ hgd s x 50 ho B 57 i1 _ 3 32 Tryz.underlying50 ki kz0 kz1 kz2 rfl (by decide) v T.length (T.flatMap encE) hs hown ⟨b, 0, none⟩ 1 1 (encE t) hx rfl ?_ ?_ (by decide) ?_ ?_ hB w.heap.size rfl ?_
  · exact World.news_of_block hb
  · intro u hu
    simp only [List.mem_cons, List.not_mem_nil, or_false] at hu
    rcases hu with rfl | rfl | rfl <;> rfl
  · unfold maxLen; omega
  · omega
  · intro g cap w' h1 h2 h3 _
    refine h g cap w' ?_ h2 h3
    unfold OwnE
    simpa using h1
end
end Go.Proofs.YtlgpacpebjechaaGreatDoor
