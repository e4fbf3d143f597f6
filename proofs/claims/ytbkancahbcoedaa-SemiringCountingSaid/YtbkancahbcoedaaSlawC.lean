/-
  The laws of semirings, walked: each returns true and turns nothing that was there.
-/
import Derived.Test.YtbkancahbcoedaaSawake
import Derived.Test.YtbkancahbcoedaaSplain
namespace Go.Proofs.Ytbkancahbcoedaa
open Go.RowKit
attribute [local go_sem] Oper.lit fut_fut fut_drew World.cell?_alloc_some
theorem rd3b (w : World) (t : TypeId) (a b c : Bool) : Rd1 (w.alloc (.cells #[.bool a, .bool b, .bool c] t)) (some ⟨w.heap.size, 0, none⟩) (Value.bool ·) [a, b, c] := by
  intro i x hi
  match i with
  | 0 => simp at hi; subst hi; exact ⟨_, _, rfl, by (first | (with_reducible assumption) | ((try simp (disch := first | (simp only [World.size_alloc, World.size_drew, World.size_setCell]; done) | (simp only [World.size_alloc, World.size_drew, World.size_setCell]; omega) | omega) only [cell_al_new, cell_al_old, cell_dr]); first | (with_reducible assumption) | rfl | (simp; done)))⟩
  | 1 => simp at hi; subst hi; exact ⟨_, _, rfl, by (first | (with_reducible assumption) | ((try simp (disch := first | (simp only [World.size_alloc, World.size_drew, World.size_setCell]; done) | (simp only [World.size_alloc, World.size_drew, World.size_setCell]; omega) | omega) only [cell_al_new, cell_al_old, cell_dr]); first | (with_reducible assumption) | rfl | (simp; done)))⟩
  | 2 => simp at hi; subst hi; exact ⟨_, _, rfl, by (first | (with_reducible assumption) | ((try simp (disch := first | (simp only [World.size_alloc, World.size_drew, World.size_setCell]; done) | (simp only [World.size_alloc, World.size_drew, World.size_setCell]; omega) | omega) only [cell_al_new, cell_al_old, cell_dr]); first | (with_reducible assumption) | rfl | (simp; done)))⟩
  | n + 3 => simp at hi
set_option maxHeartbeats 8000000 in
theorem law_counting (a b : Int) (w : World) : Calls Try.prog 9 #[.int .i64 a, .int .i64 b] w fun e w' => e = .returned (.bool true) ∧ Below w.heap.size w w' := by
  by_cases ha : intB a = true
  · by_cases hb : intB b = true
    · have ba := intB_iff.1 ha
      have bb := intB_iff.1 hb
      go_enter Try.func9, Try.ntmps9
      go_wp2_with (first | (go_at_call 12; refine (awake_any _).mono ?_; rintro e w1 ⟨rfl, hb1⟩; have hf1 : Fut _ w1 := hb1; clear hb1) | (go_at_call 28; refine (rInt_any _ _).mono ?_; rintro e w1 ⟨rfl, rfl⟩) | (go_at_call 33; refine (cntAdd_any _ _ ba.1 ba.2 bb.1 bb.2 _).mono ?_; rintro e w1 ⟨rfl, hb1⟩; have hf1 : Fut _ w1 := hb1; clear hb1) | (go_at_call 35; refine (cntMul_any _ _ ba.1 ba.2 bb.1 bb.2 _).mono ?_; rintro e w1 ⟨rfl, hb1⟩; have hf1 : Fut _ w1 := hb1; clear hb1) | (go_at_call 45; refine (cntEqual_any _ _ _).mono ?_; rintro e w1 ⟨rfl, hb1⟩; have hf1 : Fut _ w1 := hb1; clear hb1) | (go_at_call 34; refine (cntZero_any _).mono ?_; rintro e w1 ⟨rfl, hb1⟩; have hf1 : Fut _ w1 := hb1; clear hb1) | (go_at_call 22; refine (rCntAdd_any _ _ ba.1 ba.2 bb.1 bb.2 _).mono ?_; rintro e w1 ⟨rfl, hb1⟩; have hf1 : Fut _ w1 := hb1; clear hb1) | (go_at_call 23; refine (rCntMul_any _ _ ba.1 ba.2 bb.1 bb.2 _).mono ?_; rintro e w1 ⟨rfl, hb1⟩; have hf1 : Fut _ w1 := hb1; clear hb1))
      go_ret
      exact ⟨rfl, (by show Fut _ _; repeat (first | (with_reducible assumption) | exact Fut.refl _ | refine Fut.drew ?_ | refine Fut.alloc ?_ _ | refine Fut.trans ?_ (by assumption)))⟩
    · have hb' : intB b = false := by simpa using hb
      go_enter Try.func9, Try.ntmps9
      go_wp2_with (first | (go_at_call 12; refine (awake_any _).mono ?_; rintro e w1 ⟨rfl, hb1⟩; have hf1 : Fut _ w1 := hb1; clear hb1) | (go_at_call 28; refine (rInt_any _ _).mono ?_; rintro e w1 ⟨rfl, rfl⟩))
      go_ret
      exact ⟨rfl, (by show Fut _ _; repeat (first | (with_reducible assumption) | exact Fut.refl _ | refine Fut.drew ?_ | refine Fut.alloc ?_ _ | refine Fut.trans ?_ (by assumption)))⟩
  · have ha' : intB a = false := by simpa using ha
    go_enter Try.func9, Try.ntmps9
    go_wp2_with (first | (go_at_call 12; refine (awake_any _).mono ?_; rintro e w1 ⟨rfl, hb1⟩; have hf1 : Fut _ w1 := hb1; clear hb1) | (go_at_call 28; refine (rInt_any _ _).mono ?_; rintro e w1 ⟨rfl, rfl⟩))
    go_ret
    exact ⟨rfl, (by show Fut _ _; repeat (first | (with_reducible assumption) | exact Fut.refl _ | refine Fut.drew ?_ | refine Fut.alloc ?_ _ | refine Fut.trans ?_ (by assumption)))⟩
end Go.Proofs.Ytbkancahbcoedaa
