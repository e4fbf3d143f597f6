/-
  The laws of semirings, walked: each returns true and turns nothing that was there.
-/
import Derived.Test.YtbkancahbcoedaaSawake
import Derived.Test.YtbkancahbcoedaaSplain
namespace Go.Proofs.Ytbkancahbcoedaa
open Go.RowKit
attribute [local go_sem] Oper.lit fut_fut fut_drew World.cell?_alloc_some
theorem rd3b (w : World) (t : TypeId) (a b c : Bool) : Rd1 (w.alloc (.cells #[.bool a, .bool b, .bool c] t)) (some ⟨w.heap.size, 0, none⟩) (Value.bool ·) [a, b, c] := by
  intro i x hi
  match i with
  | 0 => simp at hi; subst hi; exact ⟨_, _, rfl, by (first | (with_reducible assumption) | ((try simp (disch := first | (simp only [World.size_alloc, World.size_drew, World.size_setCell]; done) | (simp only [World.size_alloc, World.size_drew, World.size_setCell]; omega) | omega) only [cell_al_new, cell_al_old, cell_dr]); first | (with_reducible assumption) | rfl | (simp; done)))⟩
  | 1 => simp at hi; subst hi; exact ⟨_, _, rfl, by (first | (with_reducible assumption) | ((try simp (disch := first | (simp only [World.size_alloc, World.size_drew, World.size_setCell]; done) | (simp only [World.size_alloc, World.size_drew, World.size_setCell]; omega) | omega) only [cell_al_new, cell_al_old, cell_dr]); first | (with_reducible assumption) | rfl | (simp; done)))⟩
  | 2 => simp at hi; subst hi; exact ⟨_, _, rfl, by (first | (with_reducible assumption) | ((try simp (disch := first | (simp only [World.size_alloc, World.size_drew, World.size_setCell]; done) | (simp only [World.size_alloc, World.size_drew, World.size_setCell]; omega) | omega) only [cell_al_new, cell_al_old, cell_dr]); first | (with_reducible assumption) | rfl | (simp; done)))⟩
  | n + 3 => simp at hi
set_option maxHeartbeats 16000000 in
set_option maxRecDepth 20000 in
theorem law_val (a b c d e f : Int) (w : World) : Calls Try.prog 6 #[vv a b, vv c d, vv e f] w fun e w' => e = .returned (.bool true) ∧ Below w.heap.size w w' := by
  have k0a : ∀ dd os, (fut (((w.alloc (.cells #[.int .i64 a, .int .i64 b] 23)).alloc (.cells #[.int .i64 c, .int .i64 d] 23)).alloc (.cells #[.int .i64 e, .int .i64 f] 23)) dd os).cell? ⟨w.heap.size, 0, none⟩ = some (.int .i64 a) := cell_fut (by (first | (with_reducible assumption) | ((try simp (disch := first | (simp only [World.size_alloc, World.size_drew, World.size_setCell]; done) | (simp only [World.size_alloc, World.size_drew, World.size_setCell]; omega) | omega) only [cell_al_new, cell_al_old, cell_dr]); first | (with_reducible assumption) | rfl | (simp; done))))
  have k0b : ∀ dd os, (fut (((w.alloc (.cells #[.int .i64 a, .int .i64 b] 23)).alloc (.cells #[.int .i64 c, .int .i64 d] 23)).alloc (.cells #[.int .i64 e, .int .i64 f] 23)) dd os).cell? ⟨w.heap.size, 1, none⟩ = some (.int .i64 b) := cell_fut (by (first | (with_reducible assumption) | ((try simp (disch := first | (simp only [World.size_alloc, World.size_drew, World.size_setCell]; done) | (simp only [World.size_alloc, World.size_drew, World.size_setCell]; omega) | omega) only [cell_al_new, cell_al_old, cell_dr]); first | (with_reducible assumption) | rfl | (simp; done))))
  have k1a : ∀ dd os, (fut (((w.alloc (.cells #[.int .i64 a, .int .i64 b] 23)).alloc (.cells #[.int .i64 c, .int .i64 d] 23)).alloc (.cells #[.int .i64 e, .int .i64 f] 23)) dd os).cell? ⟨w.heap.size + 1, 0, none⟩ = some (.int .i64 c) := cell_fut (by (first | (with_reducible assumption) | ((try simp (disch := first | (simp only [World.size_alloc, World.size_drew, World.size_setCell]; done) | (simp only [World.size_alloc, World.size_drew, World.size_setCell]; omega) | omega) only [cell_al_new, cell_al_old, cell_dr]); first | (with_reducible assumption) | rfl | (simp; done))))
  have k1b : ∀ dd os, (fut (((w.alloc (.cells #[.int .i64 a, .int .i64 b] 23)).alloc (.cells #[.int .i64 c, .int .i64 d] 23)).alloc (.cells #[.int .i64 e, .int .i64 f] 23)) dd os).cell? ⟨w.heap.size + 1, 1, none⟩ = some (.int .i64 d) := cell_fut (by (first | (with_reducible assumption) | ((try simp (disch := first | (simp only [World.size_alloc, World.size_drew, World.size_setCell]; done) | (simp only [World.size_alloc, World.size_drew, World.size_setCell]; omega) | omega) only [cell_al_new, cell_al_old, cell_dr]); first | (with_reducible assumption) | rfl | (simp; done))))
  have k2a : ∀ dd os, (fut (((w.alloc (.cells #[.int .i64 a, .int .i64 b] 23)).alloc (.cells #[.int .i64 c, .int .i64 d] 23)).alloc (.cells #[.int .i64 e, .int .i64 f] 23)) dd os).cell? ⟨w.heap.size + 1 + 1, 0, none⟩ = some (.int .i64 e) := cell_fut (by (first | (with_reducible assumption) | ((try simp (disch := first | (simp only [World.size_alloc, World.size_drew, World.size_setCell]; done) | (simp only [World.size_alloc, World.size_drew, World.size_setCell]; omega) | omega) only [cell_al_new, cell_al_old, cell_dr]); first | (with_reducible assumption) | rfl | (simp; done))))
  have k2b : ∀ dd os, (fut (((w.alloc (.cells #[.int .i64 a, .int .i64 b] 23)).alloc (.cells #[.int .i64 c, .int .i64 d] 23)).alloc (.cells #[.int .i64 e, .int .i64 f] 23)) dd os).cell? ⟨w.heap.size + 1 + 1, 1, none⟩ = some (.int .i64 f) := cell_fut (by (first | (with_reducible assumption) | ((try simp (disch := first | (simp only [World.size_alloc, World.size_drew, World.size_setCell]; done) | (simp only [World.size_alloc, World.size_drew, World.size_setCell]; omega) | omega) only [cell_al_new, cell_al_old, cell_dr]); first | (with_reducible assumption) | rfl | (simp; done))))
  by_cases ha : valB a b = true
  rotate_left
  · have ha' : valB a b = false := by simpa using ha
    go_enter Try.func6, Try.ntmps6
    go_wp2_with (first | (go_at_call 12; refine (awake_any _).mono ?_; rintro e w1 ⟨rfl, hb1⟩; first | (obtain ⟨dd, oo, rfl⟩ := fut_of (Fut.trans (Fut.fut _ _ _) hb1); clear hb1) | (obtain ⟨dd, oo, rfl⟩ := fut_of hb1; clear hb1)) | (go_at_call 11; refine (rValue_any _ _ _).mono ?_; rintro e w1 ⟨rfl, hb1⟩; first | (obtain ⟨dd, oo, rfl⟩ := fut_of (Fut.trans (Fut.fut _ _ _) hb1); clear hb1) | (obtain ⟨dd, oo, rfl⟩ := fut_of hb1; clear hb1)))
    go_ret
    exact ⟨rfl, Fut.trans (by show Fut w (((w.alloc (.cells #[.int .i64 a, .int .i64 b] 23)).alloc (.cells #[.int .i64 c, .int .i64 d] 23)).alloc (.cells #[.int .i64 e, .int .i64 f] 23)); repeat (first | exact Fut.refl _ | refine Fut.alloc ?_ _)) (Fut.fut _ _ _)⟩
  by_cases hc : valB c d = true
  rotate_left
  · have hc' : valB c d = false := by simpa using hc
    go_enter Try.func6, Try.ntmps6
    go_wp2_with (first | (go_at_call 12; refine (awake_any _).mono ?_; rintro e w1 ⟨rfl, hb1⟩; first | (obtain ⟨dd, oo, rfl⟩ := fut_of (Fut.trans (Fut.fut _ _ _) hb1); clear hb1) | (obtain ⟨dd, oo, rfl⟩ := fut_of hb1; clear hb1)) | (go_at_call 11; refine (rValue_any _ _ _).mono ?_; rintro e w1 ⟨rfl, hb1⟩; first | (obtain ⟨dd, oo, rfl⟩ := fut_of (Fut.trans (Fut.fut _ _ _) hb1); clear hb1) | (obtain ⟨dd, oo, rfl⟩ := fut_of hb1; clear hb1)))
    go_ret
    exact ⟨rfl, Fut.trans (by show Fut w (((w.alloc (.cells #[.int .i64 a, .int .i64 b] 23)).alloc (.cells #[.int .i64 c, .int .i64 d] 23)).alloc (.cells #[.int .i64 e, .int .i64 f] 23)); repeat (first | exact Fut.refl _ | refine Fut.alloc ?_ _)) (Fut.fut _ _ _)⟩
  by_cases he : valB e f = true
  rotate_left
  · have he' : valB e f = false := by simpa using he
    go_enter Try.func6, Try.ntmps6
    go_wp2_with (first | (go_at_call 12; refine (awake_any _).mono ?_; rintro e w1 ⟨rfl, hb1⟩; first | (obtain ⟨dd, oo, rfl⟩ := fut_of (Fut.trans (Fut.fut _ _ _) hb1); clear hb1) | (obtain ⟨dd, oo, rfl⟩ := fut_of hb1; clear hb1)) | (go_at_call 11; refine (rValue_any _ _ _).mono ?_; rintro e w1 ⟨rfl, hb1⟩; first | (obtain ⟨dd, oo, rfl⟩ := fut_of (Fut.trans (Fut.fut _ _ _) hb1); clear hb1) | (obtain ⟨dd, oo, rfl⟩ := fut_of hb1; clear hb1)))
    go_ret
    exact ⟨rfl, Fut.trans (by show Fut w (((w.alloc (.cells #[.int .i64 a, .int .i64 b] 23)).alloc (.cells #[.int .i64 c, .int .i64 d] 23)).alloc (.cells #[.int .i64 e, .int .i64 f] 23)); repeat (first | exact Fut.refl _ | refine Fut.alloc ?_ _)) (Fut.fut _ _ _)⟩
  have ba := valB_bd ha
  have bc := valB_bd hc
  have be := valB_bd he
  have n1v : valB (vaC c d e f) (vaS c d e f) = true := va_bd hc he
  have n1 := valB_bd n1v
  clear n1v
  have n2v : valB (vmC c e) (vmS c d e f) = true := vm_bd hc he
  have n2 := valB_bd n2v
  clear n2v
  have n3v : valB (vmC a c) (vmS a b c d) = true := vm_bd ha hc
  have n3 := valB_bd n3v
  clear n3v
  have v1 : ((vaC a b (vaC c d e f) (vaS c d e f)) = (vaC (vaC a b c d) (vaS a b c d) e f)) = True := eq_true ((va_assoc a b c d e f).1)
  have v2 : ((vaS a b (vaC c d e f) (vaS c d e f)) = (vaS (vaC a b c d) (vaS a b c d) e f)) = True := eq_true ((va_assoc a b c d e f).2)
  have v3 : ((vaC a b c d) = (vaC c d a b)) = True := eq_true ((va_comm a b c d).1)
  have v4 : ((vaS a b c d) = (vaS c d a b)) = True := eq_true ((va_comm a b c d).2)
  have v5 : ((vaC a b 1099511627776 0) = (a)) = True := eq_true ((va_zero ha).1)
  have v6 : ((vaS a b 1099511627776 0) = (b)) = True := eq_true ((va_zero ha).2)
  have v7 : ((vmC a (vmC c e)) = (vmC (vmC a c) e)) = True := eq_true ((vm_assoc ha hc he).1)
  have v8 : ((vmS a b (vmC c e) (vmS c d e f)) = (vmS (vmC a c) (vmS a b c d) e f)) = True := eq_true ((vm_assoc ha hc he).2)
  have v9 : ((vmC a 0) = (a)) = True := eq_true ((vm_one ha).1)
  have v10 : ((vmS a b 0 0) = (b)) = True := eq_true ((vm_one ha).2.1)
  have v11 : ((vmC 0 a) = (a)) = True := eq_true ((vm_one ha).2.2.1)
  have v12 : ((vmS 0 0 a b) = (b)) = True := eq_true ((vm_one ha).2.2.2)
  have v13 : ((vmC a 1099511627776) = (1099511627776)) = True := eq_true ((vm_zero ha).1)
  have v14 : ((vmS a b 1099511627776 0) = (0)) = True := eq_true ((vm_zero ha).2)
  have v15 : ((vmC a (vaC c d e f)) = (vaC (vmC a c) (vmS a b c d) (vmC a e) (vmS a b e f))) = True := eq_true ((vm_va ha hc he).1)
  have v16 : ((vmS a b (vaC c d e f) (vaS c d e f)) = (vaS (vmC a c) (vmS a b c d) (vmC a e) (vmS a b e f))) = True := eq_true ((vm_va ha hc he).2)
  have v17 : ((vaC a b a b) = (a)) = True := eq_true ((va_self a b).1)
  have v18 : ((vaS a b a b) = (b)) = True := eq_true ((va_self a b).2)
  go_enter Try.func6, Try.ntmps6
  go_wp2_with (go_at_call 11; refine (rValue_any _ _ _).mono ?_; rintro e w1 ⟨rfl, hb1⟩; first | (obtain ⟨dd, oo, rfl⟩ := fut_of (Fut.trans (Fut.fut _ _ _) hb1); clear hb1) | (obtain ⟨dd, oo, rfl⟩ := fut_of hb1; clear hb1))
  have hz := (Fut.fut (((w.alloc (.cells #[.int .i64 a, .int .i64 b] 23)).alloc (.cells #[.int .i64 c, .int .i64 d] 23)).alloc (.cells #[.int .i64 e, .int .i64 f] 23)) dd oo).size
  simp only [World.size_alloc] at hz
  have q0a := k0a dd oo
  have q0b := k0b dd oo
  have q1a := k1a dd oo
  have q1b := k1b dd oo
  have q2a := k2a dd oo
  have q2b := k2b dd oo
  have hf0 : Fut w (fut (((w.alloc (.cells #[.int .i64 a, .int .i64 b] 23)).alloc (.cells #[.int .i64 c, .int .i64 d] 23)).alloc (.cells #[.int .i64 e, .int .i64 f] 23)) dd oo) := Fut.trans (by show Fut w (((w.alloc (.cells #[.int .i64 a, .int .i64 b] 23)).alloc (.cells #[.int .i64 c, .int .i64 d] 23)).alloc (.cells #[.int .i64 e, .int .i64 f] 23)); repeat (first | exact Fut.refl _ | refine Fut.alloc ?_ _)) (Fut.fut _ _ _)
  clear k0a k0b k1a k1b k2a k2b
  generalize fut (((w.alloc (.cells #[.int .i64 a, .int .i64 b] 23)).alloc (.cells #[.int .i64 c, .int .i64 d] 23)).alloc (.cells #[.int .i64 e, .int .i64 f] 23)) dd oo = wf at *
  have j0a : ∀ dd os, (fut (wf.alloc (.cells #[] 27)) dd os).cell? ⟨w.heap.size, 0, none⟩ = some (.int .i64 a) := cell_fut (by (first | (with_reducible assumption) | ((try simp (disch := first | (simp only [World.size_alloc, World.size_drew, World.size_setCell]; done) | (simp only [World.size_alloc, World.size_drew, World.size_setCell]; omega) | omega) only [cell_al_new, cell_al_old, cell_dr]); first | (with_reducible assumption) | rfl | (simp; done))))
  have j0b : ∀ dd os, (fut (wf.alloc (.cells #[] 27)) dd os).cell? ⟨w.heap.size, 1, none⟩ = some (.int .i64 b) := cell_fut (by (first | (with_reducible assumption) | ((try simp (disch := first | (simp only [World.size_alloc, World.size_drew, World.size_setCell]; done) | (simp only [World.size_alloc, World.size_drew, World.size_setCell]; omega) | omega) only [cell_al_new, cell_al_old, cell_dr]); first | (with_reducible assumption) | rfl | (simp; done))))
  have j1a : ∀ dd os, (fut (wf.alloc (.cells #[] 27)) dd os).cell? ⟨w.heap.size + 1, 0, none⟩ = some (.int .i64 c) := cell_fut (by (first | (with_reducible assumption) | ((try simp (disch := first | (simp only [World.size_alloc, World.size_drew, World.size_setCell]; done) | (simp only [World.size_alloc, World.size_drew, World.size_setCell]; omega) | omega) only [cell_al_new, cell_al_old, cell_dr]); first | (with_reducible assumption) | rfl | (simp; done))))
  have j1b : ∀ dd os, (fut (wf.alloc (.cells #[] 27)) dd os).cell? ⟨w.heap.size + 1, 1, none⟩ = some (.int .i64 d) := cell_fut (by (first | (with_reducible assumption) | ((try simp (disch := first | (simp only [World.size_alloc, World.size_drew, World.size_setCell]; done) | (simp only [World.size_alloc, World.size_drew, World.size_setCell]; omega) | omega) only [cell_al_new, cell_al_old, cell_dr]); first | (with_reducible assumption) | rfl | (simp; done))))
  have j2a : ∀ dd os, (fut (wf.alloc (.cells #[] 27)) dd os).cell? ⟨w.heap.size + 1 + 1, 0, none⟩ = some (.int .i64 e) := cell_fut (by (first | (with_reducible assumption) | ((try simp (disch := first | (simp only [World.size_alloc, World.size_drew, World.size_setCell]; done) | (simp only [World.size_alloc, World.size_drew, World.size_setCell]; omega) | omega) only [cell_al_new, cell_al_old, cell_dr]); first | (with_reducible assumption) | rfl | (simp; done))))
  have j2b : ∀ dd os, (fut (wf.alloc (.cells #[] 27)) dd os).cell? ⟨w.heap.size + 1 + 1, 1, none⟩ = some (.int .i64 f) := cell_fut (by (first | (with_reducible assumption) | ((try simp (disch := first | (simp only [World.size_alloc, World.size_drew, World.size_setCell]; done) | (simp only [World.size_alloc, World.size_drew, World.size_setCell]; omega) | omega) only [cell_al_new, cell_al_old, cell_dr]); first | (with_reducible assumption) | rfl | (simp; done))))
  clear q0a q0b q1a q1b q2a q2b
  go_wp2_with fail
  refine wp_region_M o_emendatelaw26_SemiringValueAxioms_4 (by kernel_rfl) (by kernel_rfl) (by intro c a d v w h; cases d <;> exact h) ?_; unfold o_emendatelaw26_SemiringValueAxioms_4
  repeat (first | (refine wpF_h rfl rfl (fun K hK => ?_); go_simp; refine hK _ _ ?_; clear hK K) | (refine wpF_o rfl rfl (fun K hK => ?_); go_simp; first | (go_at_call 12; refine (awake_any _).mono ?_; rintro e w1 ⟨rfl, hb1⟩; have hf1 : Fut _ w1 := hb1; refine hK _ _ (.inr hf1) ?_; clear hK K hb1) | (go_at_call 13; refine (lexAdd_any _ _ _ _ _).mono ?_; rintro e w1 ⟨rfl, hb1⟩; have hf1 : Fut _ w1 := hb1; refine hK _ _ (.inr hf1) ?_; clear hK K hb1) | (go_at_call 15; refine (lexMul_any _ _ _ _ (by omega) (by omega) (by omega) (by omega) (by omega) (by omega) (by omega) (by omega) _).mono ?_; rintro e w1 ⟨rfl, hb1⟩; have hf1 : Fut _ w1 := hb1; refine hK _ _ (.inr hf1) ?_; clear hK K hb1) | (go_at_call 18; refine (lexOne_any _).mono ?_; rintro e w1 ⟨rfl, hb1⟩; have hf1 : Fut _ w1 := hb1; refine hK _ _ (.inr hf1) ?_; clear hK K hb1) | (go_at_call 37; refine (lexZero_b _).mono ?_; rintro e w1 ⟨rfl, hb1⟩; have hf1 : Fut _ w1 := hb1; refine hK _ _ (.inr hf1) ?_; clear hK K hb1)))
  refine wpF_nil ?_
  go_wp2_with fail
  go_ret
  exact ⟨rfl, (by show Fut _ _; repeat (first | (with_reducible assumption) | exact Fut.refl _ | refine Fut.drew ?_ | refine Fut.alloc ?_ _ | refine Fut.trans ?_ (by assumption)))⟩
end Go.Proofs.Ytbkancahbcoedaa
