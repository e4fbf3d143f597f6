/-
  The laws of semirings, walked: each returns true and turns nothing that was there.
-/
import Derived.Test.YtbkancahbcoedaaSawake
import Derived.Test.YtbkancahbcoedaaSplain
namespace Go.Proofs.Ytbkancahbcoedaa
open Go.RowKit
attribute [local go_sem] Oper.lit fut_fut fut_drew World.cell?_alloc_some
theorem rd3b (w : World) (t : TypeId) (a b c : Bool) : Rd1 (w.alloc (.cells #[.bool a, .bool b, .bool c] t)) (some ⟨w.heap.size, 0, none⟩) (Value.bool ·) [a, b, c] := by
  intro i x hi
  match i with
  | 0 => simp at hi; subst hi; exact ⟨_, _, rfl, by (first | (with_reducible assumption) | ((try simp (disch := first | (simp only [World.size_alloc, World.size_drew, World.size_setCell]; done) | (simp only [World.size_alloc, World.size_drew, World.size_setCell]; omega) | omega) only [cell_al_new, cell_al_old, cell_dr]); first | (with_reducible assumption) | rfl | (simp; done)))⟩
  | 1 => simp at hi; subst hi; exact ⟨_, _, rfl, by (first | (with_reducible assumption) | ((try simp (disch := first | (simp only [World.size_alloc, World.size_drew, World.size_setCell]; done) | (simp only [World.size_alloc, World.size_drew, World.size_setCell]; omega) | omega) only [cell_al_new, cell_al_old, cell_dr]); first | (with_reducible assumption) | rfl | (simp; done)))⟩
  | 2 => simp at hi; subst hi; exact ⟨_, _, rfl, by (first | (with_reducible assumption) | ((try simp (disch := first | (simp only [World.size_alloc, World.size_drew, World.size_setCell]; done) | (simp only [World.size_alloc, World.size_drew, World.size_setCell]; omega) | omega) only [cell_al_new, cell_al_old, cell_dr]); first | (with_reducible assumption) | rfl | (simp; done)))⟩
  | n + 3 => simp at hi
set_option maxHeartbeats 8000000 in
theorem law_boolean (a b c : Bool) (w : World) : Calls Try.prog 7 #[.bool a, .bool b, .bool c] w fun e w' => e = .returned (.bool true) ∧ Below w.heap.size w w' := by
  cases a <;> cases b <;> cases c
  all_goals
    go_enter Try.func7, Try.ntmps7
    go_wp2_with (first | (go_at_call 12; refine (awake_any _).mono ?_; rintro e w1 ⟨rfl, hb1⟩; have hf1 : Fut _ w1 := hb1; clear hb1) | (go_at_call 38; refine (boolAdd_any _ _ _).mono ?_; rintro e w1 ⟨rfl, hb1⟩; have hf1 : Fut _ w1 := hb1; clear hb1) | (go_at_call 39; refine (boolMul_any _ _ _).mono ?_; rintro e w1 ⟨rfl, hb1⟩; have hf1 : Fut _ w1 := hb1; clear hb1) | (go_at_call 40; refine (boolEqual_any _ _ _).mono ?_; rintro e w1 ⟨rfl, hb1⟩; have hf1 : Fut _ w1 := hb1; clear hb1) | (go_at_call 41; (with_reducible refine (sumBool none 0 0 [] _ rfl (by decide) (fun _ _ => trivial) Rd1.nil).mono ?_); rintro e w1 ⟨rfl, hb1⟩; have hf1 : Fut _ w1 := hb1; clear hb1) | (go_at_call 42; (with_reducible refine (prodBool none 0 0 [] _ rfl (by decide) (fun _ _ => trivial) Rd1.nil).mono ?_); rintro e w1 ⟨rfl, hb1⟩; have hf1 : Fut _ w1 := hb1; clear hb1) | (go_at_call 41; (with_reducible refine (sumBool _ 3 3 _ _ rfl (by decide) (fun _ _ => trivial) (rd3b _ _ _ _ _)).mono ?_); rintro e w1 ⟨rfl, hb1⟩; have hf1 : Fut _ w1 := hb1; clear hb1) | (go_at_call 42; (with_reducible refine (prodBool _ 3 3 _ _ rfl (by decide) (fun _ _ => trivial) (rd3b _ _ _ _ _)).mono ?_); rintro e w1 ⟨rfl, hb1⟩; have hf1 : Fut _ w1 := hb1; clear hb1))
    go_ret
    exact ⟨rfl, (by show Fut _ _; repeat (first | (with_reducible assumption) | exact Fut.refl _ | refine Fut.drew ?_ | refine Fut.alloc ?_ _ | refine Fut.trans ?_ (by assumption)))⟩
end Go.Proofs.Ytbkancahbcoedaa
