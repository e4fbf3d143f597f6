/-
  The laws of semirings, walked: each returns true and turns nothing that was there.
-/
import Derived.Test.YtbkancahbcoedaaSawake
import Derived.Test.YtbkancahbcoedaaSplain
namespace Go.Proofs.Ytbkancahbcoedaa
open Go.RowKit
attribute [local go_sem] Oper.lit fut_fut fut_drew World.cell?_alloc_some
theorem rd3b (w : World) (t : TypeId) (a b c : Bool) : Rd1 (w.alloc (.cells #[.bool a, .bool b, .bool c] t)) (some ⟨w.heap.size, 0, none⟩) (Value.bool ·) [a, b, c] := by
  intro i x hi
  match i with
  | 0 => simp at hi; subst hi; exact ⟨_, _, rfl, by (first | (with_reducible assumption) | ((try simp (disch := first | (simp only [World.size_alloc, World.size_drew, World.size_setCell]; done) | (simp only [World.size_alloc, World.size_drew, World.size_setCell]; omega) | omega) only [cell_al_new, cell_al_old, cell_dr]); first | (with_reducible assumption) | rfl | (simp; done)))⟩
  | 1 => simp at hi; subst hi; exact ⟨_, _, rfl, by (first | (with_reducible assumption) | ((try simp (disch := first | (simp only [World.size_alloc, World.size_drew, World.size_setCell]; done) | (simp only [World.size_alloc, World.size_drew, World.size_setCell]; omega) | omega) only [cell_al_new, cell_al_old, cell_dr]); first | (with_reducible assumption) | rfl | (simp; done)))⟩
  | 2 => simp at hi; subst hi; exact ⟨_, _, rfl, by (first | (with_reducible assumption) | ((try simp (disch := first | (simp only [World.size_alloc, World.size_drew, World.size_setCell]; done) | (simp only [World.size_alloc, World.size_drew, World.size_setCell]; omega) | omega) only [cell_al_new, cell_al_old, cell_dr]); first | (with_reducible assumption) | rfl | (simp; done)))⟩
  | n + 3 => simp at hi
set_option maxHeartbeats 8000000 in
theorem law_lex (a b c d : Int) (w : World) : Calls Try.prog 3 #[vv a b, vv c d] w fun e w' => e = .returned (.bool true) ∧ Below w.heap.size w w' := by
  have k0a : ∀ dd os, (fut ((w.alloc (.cells #[.int .i64 a, .int .i64 b] 23)).alloc (.cells #[.int .i64 c, .int .i64 d] 23)) dd os).cell? ⟨w.heap.size, 0, none⟩ = some (.int .i64 a) := cell_fut (by (first | (with_reducible assumption) | ((try simp (disch := first | (simp only [World.size_alloc, World.size_drew, World.size_setCell]; done) | (simp only [World.size_alloc, World.size_drew, World.size_setCell]; omega) | omega) only [cell_al_new, cell_al_old, cell_dr]); first | (with_reducible assumption) | rfl | (simp; done))))
  have k0b : ∀ dd os, (fut ((w.alloc (.cells #[.int .i64 a, .int .i64 b] 23)).alloc (.cells #[.int .i64 c, .int .i64 d] 23)) dd os).cell? ⟨w.heap.size, 1, none⟩ = some (.int .i64 b) := cell_fut (by (first | (with_reducible assumption) | ((try simp (disch := first | (simp only [World.size_alloc, World.size_drew, World.size_setCell]; done) | (simp only [World.size_alloc, World.size_drew, World.size_setCell]; omega) | omega) only [cell_al_new, cell_al_old, cell_dr]); first | (with_reducible assumption) | rfl | (simp; done))))
  have k1a : ∀ dd os, (fut ((w.alloc (.cells #[.int .i64 a, .int .i64 b] 23)).alloc (.cells #[.int .i64 c, .int .i64 d] 23)) dd os).cell? ⟨w.heap.size + 1, 0, none⟩ = some (.int .i64 c) := cell_fut (by (first | (with_reducible assumption) | ((try simp (disch := first | (simp only [World.size_alloc, World.size_drew, World.size_setCell]; done) | (simp only [World.size_alloc, World.size_drew, World.size_setCell]; omega) | omega) only [cell_al_new, cell_al_old, cell_dr]); first | (with_reducible assumption) | rfl | (simp; done))))
  have k1b : ∀ dd os, (fut ((w.alloc (.cells #[.int .i64 a, .int .i64 b] 23)).alloc (.cells #[.int .i64 c, .int .i64 d] 23)) dd os).cell? ⟨w.heap.size + 1, 1, none⟩ = some (.int .i64 d) := cell_fut (by (first | (with_reducible assumption) | ((try simp (disch := first | (simp only [World.size_alloc, World.size_drew, World.size_setCell]; done) | (simp only [World.size_alloc, World.size_drew, World.size_setCell]; omega) | omega) only [cell_al_new, cell_al_old, cell_dr]); first | (with_reducible assumption) | rfl | (simp; done))))
  by_cases ha : valB a b = true
  rotate_left
  · have ha' : valB a b = false := by simpa using ha
    go_enter Try.func3, Try.ntmps3
    go_wp2_with (first | (go_at_call 12; refine (awake_any _).mono ?_; rintro e w1 ⟨rfl, hb1⟩; first | (obtain ⟨dd, oo, rfl⟩ := fut_of (Fut.trans (Fut.fut _ _ _) hb1); clear hb1) | (obtain ⟨dd, oo, rfl⟩ := fut_of hb1; clear hb1)) | (go_at_call 11; refine (rValue_any _ _ _).mono ?_; rintro e w1 ⟨rfl, hb1⟩; first | (obtain ⟨dd, oo, rfl⟩ := fut_of (Fut.trans (Fut.fut _ _ _) hb1); clear hb1) | (obtain ⟨dd, oo, rfl⟩ := fut_of hb1; clear hb1)))
    go_ret
    exact ⟨rfl, Fut.trans (by show Fut w ((w.alloc (.cells #[.int .i64 a, .int .i64 b] 23)).alloc (.cells #[.int .i64 c, .int .i64 d] 23)); repeat (first | exact Fut.refl _ | refine Fut.alloc ?_ _)) (Fut.fut _ _ _)⟩
  by_cases hc : valB c d = true
  rotate_left
  · have hc' : valB c d = false := by simpa using hc
    go_enter Try.func3, Try.ntmps3
    go_wp2_with (first | (go_at_call 12; refine (awake_any _).mono ?_; rintro e w1 ⟨rfl, hb1⟩; first | (obtain ⟨dd, oo, rfl⟩ := fut_of (Fut.trans (Fut.fut _ _ _) hb1); clear hb1) | (obtain ⟨dd, oo, rfl⟩ := fut_of hb1; clear hb1)) | (go_at_call 11; refine (rValue_any _ _ _).mono ?_; rintro e w1 ⟨rfl, hb1⟩; first | (obtain ⟨dd, oo, rfl⟩ := fut_of (Fut.trans (Fut.fut _ _ _) hb1); clear hb1) | (obtain ⟨dd, oo, rfl⟩ := fut_of hb1; clear hb1)))
    go_ret
    exact ⟨rfl, Fut.trans (by show Fut w ((w.alloc (.cells #[.int .i64 a, .int .i64 b] 23)).alloc (.cells #[.int .i64 c, .int .i64 d] 23)); repeat (first | exact Fut.refl _ | refine Fut.alloc ?_ _)) (Fut.fut _ _ _)⟩
  have ba := valB_bd ha
  have bc := valB_bd hc
  have hcase : (((a = c) = True) ∧ ((b = d) = True)) ∨ (((a = c) = True) ∧ ((b = d) = False)) ∨ ((a = c) = False) := by
    by_cases e1 : a = c <;> by_cases e2 : b = d <;> simp [e1, e2]
  rcases hcase with ⟨e1, e2⟩ | ⟨e1, e2⟩ | e1
  all_goals
    go_enter Try.func3, Try.ntmps3
    go_wp2_with (go_at_call 11; refine (rValue_any _ _ _).mono ?_; rintro e w1 ⟨rfl, hb1⟩; first | (obtain ⟨dd, oo, rfl⟩ := fut_of (Fut.trans (Fut.fut _ _ _) hb1); clear hb1) | (obtain ⟨dd, oo, rfl⟩ := fut_of hb1; clear hb1))
    have hz := (Fut.fut ((w.alloc (.cells #[.int .i64 a, .int .i64 b] 23)).alloc (.cells #[.int .i64 c, .int .i64 d] 23)) dd oo).size
    simp only [World.size_alloc] at hz
    have q0a := k0a dd oo
    have q0b := k0b dd oo
    have q1a := k1a dd oo
    have q1b := k1b dd oo
    have hf0 : Fut w (fut ((w.alloc (.cells #[.int .i64 a, .int .i64 b] 23)).alloc (.cells #[.int .i64 c, .int .i64 d] 23)) dd oo) := Fut.trans (by show Fut w ((w.alloc (.cells #[.int .i64 a, .int .i64 b] 23)).alloc (.cells #[.int .i64 c, .int .i64 d] 23)); repeat (first | exact Fut.refl _ | refine Fut.alloc ?_ _)) (Fut.fut _ _ _)
    clear k0a k0b k1a k1b
    generalize fut ((w.alloc (.cells #[.int .i64 a, .int .i64 b] 23)).alloc (.cells #[.int .i64 c, .int .i64 d] 23)) dd oo = wf at *
    have j0a : ∀ dd os, (fut (wf.alloc (.cells #[] 27)) dd os).cell? ⟨w.heap.size, 0, none⟩ = some (.int .i64 a) := cell_fut (by (first | (with_reducible assumption) | ((try simp (disch := first | (simp only [World.size_alloc, World.size_drew, World.size_setCell]; done) | (simp only [World.size_alloc, World.size_drew, World.size_setCell]; omega) | omega) only [cell_al_new, cell_al_old, cell_dr]); first | (with_reducible assumption) | rfl | (simp; done))))
    have j0b : ∀ dd os, (fut (wf.alloc (.cells #[] 27)) dd os).cell? ⟨w.heap.size, 1, none⟩ = some (.int .i64 b) := cell_fut (by (first | (with_reducible assumption) | ((try simp (disch := first | (simp only [World.size_alloc, World.size_drew, World.size_setCell]; done) | (simp only [World.size_alloc, World.size_drew, World.size_setCell]; omega) | omega) only [cell_al_new, cell_al_old, cell_dr]); first | (with_reducible assumption) | rfl | (simp; done))))
    have j1a : ∀ dd os, (fut (wf.alloc (.cells #[] 27)) dd os).cell? ⟨w.heap.size + 1, 0, none⟩ = some (.int .i64 c) := cell_fut (by (first | (with_reducible assumption) | ((try simp (disch := first | (simp only [World.size_alloc, World.size_drew, World.size_setCell]; done) | (simp only [World.size_alloc, World.size_drew, World.size_setCell]; omega) | omega) only [cell_al_new, cell_al_old, cell_dr]); first | (with_reducible assumption) | rfl | (simp; done))))
    have j1b : ∀ dd os, (fut (wf.alloc (.cells #[] 27)) dd os).cell? ⟨w.heap.size + 1, 1, none⟩ = some (.int .i64 d) := cell_fut (by (first | (with_reducible assumption) | ((try simp (disch := first | (simp only [World.size_alloc, World.size_drew, World.size_setCell]; done) | (simp only [World.size_alloc, World.size_drew, World.size_setCell]; omega) | omega) only [cell_al_new, cell_al_old, cell_dr]); first | (with_reducible assumption) | rfl | (simp; done))))
    clear q0a q0b q1a q1b
    go_wp2_with fail
    refine wp_region_M o_emendatelaw26_SemiringLexicographic_4 (by kernel_rfl) (by kernel_rfl) (by intro c a d v w h; cases d <;> exact h) ?_; unfold o_emendatelaw26_SemiringLexicographic_4
    repeat (first | (refine wpF_h rfl rfl (fun K hK => ?_); go_simp; refine hK _ _ ?_; clear hK K) | (refine wpF_o rfl rfl (fun K hK => ?_); go_simp; first | (go_at_call 12; refine (awake_any _).mono ?_; rintro e w1 ⟨rfl, hb1⟩; have hf1 : Fut _ w1 := hb1; refine hK _ _ (.inr hf1) ?_; clear hK K hb1) | (go_at_call 13; refine (lexAdd_any _ _ _ _ _).mono ?_; rintro e w1 ⟨rfl, hb1⟩; have hf1 : Fut _ w1 := hb1; refine hK _ _ (.inr hf1) ?_; clear hK K hb1) | (go_at_call 15; refine (lexMul_any _ _ _ _ (by omega) (by omega) (by omega) (by omega) (by omega) (by omega) (by omega) (by omega) _).mono ?_; rintro e w1 ⟨rfl, hb1⟩; have hf1 : Fut _ w1 := hb1; refine hK _ _ (.inr hf1) ?_; clear hK K hb1) | (go_at_call 17; refine (lexEqual_any _ _ _ _ _).mono ?_; rintro e w1 ⟨rfl, hb1⟩; have hf1 : Fut _ w1 := hb1; refine hK _ _ (.inr hf1) ?_; clear hK K hb1) | (go_at_call 18; refine (lexOne_any _).mono ?_; rintro e w1 ⟨rfl, hb1⟩; have hf1 : Fut _ w1 := hb1; refine hK _ _ (.inr hf1) ?_; clear hK K hb1) | (go_at_call 37; refine (lexZero_b _).mono ?_; rintro e w1 ⟨rfl, hb1⟩; have hf1 : Fut _ w1 := hb1; refine hK _ _ (.inr hf1) ?_; clear hK K hb1) | (go_at_call 14; refine (rValueAdd_any _ _ _ _ _).mono ?_; rintro e w1 ⟨rfl, hb1⟩; have hf1 : Fut _ w1 := hb1; refine hK _ _ (.inr hf1) ?_; clear hK K hb1) | (go_at_call 16; refine (rValueMul_any _ _ _ _ (by omega) (by omega) (by omega) (by omega) (by omega) (by omega) (by omega) (by omega) _).mono ?_; rintro e w1 ⟨rfl, hb1⟩; have hf1 : Fut _ w1 := hb1; refine hK _ _ (.inr hf1) ?_; clear hK K hb1)))
    refine wpF_nil ?_
    go_wp2_with fail
    go_ret
    exact ⟨rfl, (by show Fut _ _; repeat (first | (with_reducible assumption) | exact Fut.refl _ | refine Fut.drew ?_ | refine Fut.alloc ?_ _ | refine Fut.trans ?_ (by assumption)))⟩
end Go.Proofs.Ytbkancahbcoedaa
