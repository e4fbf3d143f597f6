/-
  The closure of Derivable that notes a node.
-/
import Derived.Test.YtjoejkfchnooaaaHder
namespace Go.Proofs.Ytjoejkfchnooaaa
open Go.RowKit
attribute [local go_sem] Oper.lit Oper.litS fut_fut fut_drew World.cell?_alloc_some
set_option maxHeartbeats 3200000 in
theorem found_any {w wr : World} {b N n : Nat} {A : Option Addr} {c : Nat} {O : Nat → Bool} {Mi : Nat → Nat} {V : Nat → Value} {L : Nat → List Nat} {tv : Value} {T : List Nat} (v : Nat) (hv : v < N) (hT : T.length ≤ 1048576) (h : DH w b N n A c wr O Mi V L tv T) :
    Calls Try.prog 30 #[.int .i64 v, .pointer (some ⟨b + 2, 0, none⟩), .pointer (some ⟨b + 5, 0, none⟩)] wr fun e w' => e = .returned (.tuple #[]) ∧ ∃ tv', DH w b N n A c w' (fO O v) Mi V L tv' (fT O T v) := by
  have hob := h.obox
  have hco := h.out.cell hv
  have hfo := h.out.frozen v
  have htb := cell_of_one h.tbox
  have htf := free_of_one h.tbox
  have H := Lib.hid h
  obtain ⟨ta, tc, htv, hta⟩ := h.todo.form
  clear h
  subst htv
  cases ho : O v
  · rw [ho] at hco
    have HO := Lib.hid (show fO O v = upd O v true ∧ fT O T v = T ++ [v] from by unfold fO fT; simp [ho])
    have h1 := H.out.setOut v true
    have H1 := Lib.hid h1
    have hob1 := h1.obox
    have htb1 := cell_of_one h1.tbox
    have htf1 := free_of_one h1.tbox
    have hsz1 := h1.sz
    clear ho h1
    go_enter Try.func30, Try.ntmps30
    go_wp2_with (at_builtin; refine wpList_push rfl (.tmp 12) (.tmp 14) rfl (b + 6) _ T rfl (H1.out.todo.alloc _) wr.heap.size v rfl (by rw [← World.size_setCell wr ⟨b + 1, v, none⟩ (.bool true)]; exact heap_alloc_new _ _) (by omega) (by rw [World.size_alloc]; omega) ?_; intro g2 cp2 w2 hown2 hgr2 hw2; have HP := Lib.hid ((H1.out.alloc _).pushTodo hown2 hgr2 hw2); have htb2 := cell_of_one ((hgr2.block (b + 5) (by rw [World.size_alloc]; omega) (fun e => by have := (H1.out.todo.lt _ e.symm).1; omega)).trans (H1.out.alloc (.cells #[nv v] 3)).tbox); have htf2 := free_of_one ((hgr2.block (b + 5) (by rw [World.size_alloc]; omega) (fun e => by have := (H1.out.todo.lt _ e.symm).1; omega)).trans (H1.out.alloc (.cells #[nv v] 3)).tbox); clear hown2 hgr2 hw2)
    go_returns
    refine ⟨rfl, .slice (some ⟨g2, 0, none⟩) (T.length + 1) cp2, ?_⟩
    rw [HO.out.1, HO.out.2]
    exact HP.out
  · rw [ho] at hco
    have HO := Lib.hid (show fO O v = O ∧ fT O T v = T from by unfold fO fT; simp [ho])
    clear ho
    go_enter Try.func30, Try.ntmps30
    go_wp2_with fail
    go_returns
    refine ⟨rfl, .slice ta T.length tc, ?_⟩
    rw [HO.out.1, HO.out.2]
    exact H.out
end Go.Proofs.Ytjoejkfchnooaaa
