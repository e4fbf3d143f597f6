/-
  The laws of semirings, walked: each returns true and turns nothing that was there.
-/
import Derived.Test.YtbkancahbcoedaaSawake
import Derived.Test.YtbkancahbcoedaaSplain
namespace Go.Proofs.Ytbkancahbcoedaa
open Go.RowKit
attribute [local go_sem] Oper.lit fut_fut fut_drew World.cell?_alloc_some
theorem rd3b (w : World) (t : TypeId) (a b c : Bool) : Rd1 (w.alloc (.cells #[.bool a, .bool b, .bool c] t)) (some ⟨w.heap.size, 0, none⟩) (Value.bool ·) [a, b, c] := by
  intro i x hi
  match i with
  | 0 => simp at hi; subst hi; exact ⟨_, _, rfl, by (first | (with_reducible assumption) | ((try simp (disch := first | (simp only [World.size_alloc, World.size_drew, World.size_setCell]; done) | (simp only [World.size_alloc, World.size_drew, World.size_setCell]; omega) | omega) only [cell_al_new, cell_al_old, cell_dr]); first | (with_reducible assumption) | rfl | (simp; done)))⟩
  | 1 => simp at hi; subst hi; exact ⟨_, _, rfl, by (first | (with_reducible assumption) | ((try simp (disch := first | (simp only [World.size_alloc, World.size_drew, World.size_setCell]; done) | (simp only [World.size_alloc, World.size_drew, World.size_setCell]; omega) | omega) only [cell_al_new, cell_al_old, cell_dr]); first | (with_reducible assumption) | rfl | (simp; done)))⟩
  | 2 => simp at hi; subst hi; exact ⟨_, _, rfl, by (first | (with_reducible assumption) | ((try simp (disch := first | (simp only [World.size_alloc, World.size_drew, World.size_setCell]; done) | (simp only [World.size_alloc, World.size_drew, World.size_setCell]; omega) | omega) only [cell_al_new, cell_al_old, cell_dr]); first | (with_reducible assumption) | rfl | (simp; done)))⟩
  | n + 3 => simp at hi
set_option maxHeartbeats 16000000 in
set_option maxRecDepth 20000 in
theorem law_int (a b c : Int) (w : World) : Calls Try.prog 5 #[.int .i64 a, .int .i64 b, .int .i64 c] w fun e w' => e = .returned (.bool true) ∧ Below w.heap.size w w' := by
  by_cases ha : intB a = true
  rotate_left
  · have ha' : intB a = false := by simpa using ha
    go_enter Try.func5, Try.ntmps5
    go_wp2_with (first | (go_at_call 12; refine (awake_any _).mono ?_; rintro e w1 ⟨rfl, hb1⟩; have hf1 : Fut _ w1 := hb1; clear hb1) | (go_at_call 28; refine (rInt_any _ _).mono ?_; rintro e w1 ⟨rfl, rfl⟩))
    go_ret
    exact ⟨rfl, (by show Fut _ _; repeat (first | (with_reducible assumption) | exact Fut.refl _ | refine Fut.drew ?_ | refine Fut.alloc ?_ _ | refine Fut.trans ?_ (by assumption)))⟩
  by_cases hb : intB b = true
  rotate_left
  · have hb' : intB b = false := by simpa using hb
    go_enter Try.func5, Try.ntmps5
    go_wp2_with (first | (go_at_call 12; refine (awake_any _).mono ?_; rintro e w1 ⟨rfl, hb1⟩; have hf1 : Fut _ w1 := hb1; clear hb1) | (go_at_call 28; refine (rInt_any _ _).mono ?_; rintro e w1 ⟨rfl, rfl⟩))
    go_ret
    exact ⟨rfl, (by show Fut _ _; repeat (first | (with_reducible assumption) | exact Fut.refl _ | refine Fut.drew ?_ | refine Fut.alloc ?_ _ | refine Fut.trans ?_ (by assumption)))⟩
  by_cases hc : intB c = true
  rotate_left
  · have hc' : intB c = false := by simpa using hc
    go_enter Try.func5, Try.ntmps5
    go_wp2_with (first | (go_at_call 12; refine (awake_any _).mono ?_; rintro e w1 ⟨rfl, hb1⟩; have hf1 : Fut _ w1 := hb1; clear hb1) | (go_at_call 28; refine (rInt_any _ _).mono ?_; rintro e w1 ⟨rfl, rfl⟩))
    go_ret
    exact ⟨rfl, (by show Fut _ _; repeat (first | (with_reducible assumption) | exact Fut.refl _ | refine Fut.drew ?_ | refine Fut.alloc ?_ _ | refine Fut.trans ?_ (by assumption)))⟩
  have ba := intB_iff.1 ha
  have bb := intB_iff.1 hb
  have bc := intB_iff.1 hc
  have t0 : (minF a (minF b c) == minF (minF a b) c) = true := by rw [min_assoc]; exact beq_self_eq_true _
  have t1 : (minF a b == minF b a) = true := by rw [min_comm]; exact beq_self_eq_true _
  have t2 : (minF a 1099511627776 == a) = true := by simp only [beq_iff_eq]; unfold minF; split <;> omega
  have t3 : (plusF a (plusF b c) == plusF (plusF a b) c) = true := by rw [plus_assoc ba.1 bb.1 bc.1]; exact beq_self_eq_true _
  have t4 : (plusF a 0 == a) = true := by simp only [beq_iff_eq]; unfold plusF; split <;> omega
  have t5 : (plusF 0 a == a) = true := by simp only [beq_iff_eq]; unfold plusF; split <;> omega
  have t6 : (plusF a 1099511627776 == 1099511627776) = true := by simp only [beq_iff_eq]; unfold plusF; split <;> omega
  have t7 : (plusF a (minF b c) == minF (plusF a b) (plusF a c)) = true := by rw [plus_min]; exact beq_self_eq_true _
  have t8 : (minF a a == a) = true := by simp only [beq_iff_eq]; unfold minF; split <;> omega
  have t9 : 0 ≤ minF b c ∧ minF b c ≤ 1099511627776 := by unfold minF; split <;> omega
  have t10 : 0 ≤ plusF b c ∧ plusF b c ≤ 1099511627776 := plusF_bd bb.1 bc.1
  have t11 : 0 ≤ plusF a b ∧ plusF a b ≤ 1099511627776 := plusF_bd ba.1 bb.1
  go_enter Try.func5, Try.ntmps5
  go_wp2_with (go_at_call 28; refine (rInt_any _ _).mono ?_; rintro e w1 ⟨rfl, rfl⟩)
  refine wp_region_M o_emendatelaw26_SemiringIntAxioms_4 (by kernel_rfl) (by kernel_rfl) (by intro c a d v w h; cases d <;> exact h) ?_; unfold o_emendatelaw26_SemiringIntAxioms_4
  repeat (first | (refine wpF_h rfl rfl (fun K hK => ?_); go_simp; refine hK _ _ ?_; clear hK K) | (refine wpF_o rfl rfl (fun K hK => ?_); go_simp; first | (go_at_call 29; refine (tropAdd_any _ _ _).mono ?_; rintro e w1 ⟨rfl, hb1⟩; have hf1 : Fut _ w1 := hb1; refine hK _ _ (.inr hf1) ?_; clear hK K hb1) | (go_at_call 31; refine (tropMul_any _ _ (by omega) (by omega) (by omega) (by omega) _).mono ?_; rintro e w1 ⟨rfl, hb1⟩; have hf1 : Fut _ w1 := hb1; refine hK _ _ (.inr hf1) ?_; clear hK K hb1) | (go_at_call 30; refine (tropZero_any _).mono ?_; rintro e w1 ⟨rfl, hb1⟩; have hf1 : Fut _ w1 := hb1; refine hK _ _ (.inr hf1) ?_; clear hK K hb1) | (go_at_call 32; refine (tropOne_any _).mono ?_; rintro e w1 ⟨rfl, hb1⟩; have hf1 : Fut _ w1 := hb1; refine hK _ _ (.inr hf1) ?_; clear hK K hb1)))
  refine wpF_nil ?_
  go_wp2_with fail
  clear t0 t1 t2 t3 t4 t5 t6 t7 t8 t9 t10 t11
  have t0 : (plusF a (plusF b c) == plusF (plusF a b) c) = true := by rw [plus_assoc ba.1 bb.1 bc.1]; exact beq_self_eq_true _
  have t1 : (plusF a b == plusF b a) = true := by rw [plus_comm]; exact beq_self_eq_true _
  have t2 : (plusF a 0 == a) = true := by simp only [beq_iff_eq]; unfold plusF; split <;> omega
  have t3 : (mulF a (mulF b c) == mulF (mulF a b) c) = true := by rw [mul_assoc' ba.1 bb.1 bc.1]; exact beq_self_eq_true _
  have t4 : (mulF a 1 == a) = true := by simp only [beq_iff_eq]; unfold mulF; split <;> omega
  have t5 : (mulF 1 a == a) = true := by simp only [beq_iff_eq]; unfold mulF; split <;> omega
  have t6 : (mulF a 0 == 0) = true := by simp only [beq_iff_eq]; unfold mulF; split <;> omega
  have t7 : (mulF a (plusF b c) == plusF (mulF a b) (mulF a c)) = true := by rw [mul_plus ba.1 bb.1 bc.1]; exact beq_self_eq_true _
  have t8 : 0 ≤ mulF b c ∧ mulF b c ≤ 1099511627776 := mulF_bd bb.1 bc.1
  have t9 : 0 ≤ mulF a b ∧ mulF a b ≤ 1099511627776 := mulF_bd ba.1 bb.1
  have t10 : 0 ≤ mulF a c ∧ mulF a c ≤ 1099511627776 := mulF_bd ba.1 bc.1
  have t11 : 0 ≤ plusF b c ∧ plusF b c ≤ 1099511627776 := plusF_bd bb.1 bc.1
  have t12 : 0 ≤ plusF a b ∧ plusF a b ≤ 1099511627776 := plusF_bd ba.1 bb.1
  refine wp_region_M o_emendatelaw26_SemiringIntAxioms_5 (by kernel_rfl) (by kernel_rfl) (by intro c a d v w h; cases d <;> exact h) ?_; unfold o_emendatelaw26_SemiringIntAxioms_5
  repeat (first | (refine wpF_h rfl rfl (fun K hK => ?_); go_simp; refine hK _ _ ?_; clear hK K) | (refine wpF_o rfl rfl (fun K hK => ?_); go_simp; first | (go_at_call 33; refine (cntAdd_any _ _ (by omega) (by omega) (by omega) (by omega) _).mono ?_; rintro e w1 ⟨rfl, hb1⟩; have hf1 : Fut _ w1 := hb1; refine hK _ _ (.inr hf1) ?_; clear hK K hb1) | (go_at_call 35; refine (cntMul_any _ _ (by omega) (by omega) (by omega) (by omega) _).mono ?_; rintro e w1 ⟨rfl, hb1⟩; have hf1 : Fut _ w1 := hb1; refine hK _ _ (.inr hf1) ?_; clear hK K hb1) | (go_at_call 34; refine (cntZero_any _).mono ?_; rintro e w1 ⟨rfl, hb1⟩; have hf1 : Fut _ w1 := hb1; refine hK _ _ (.inr hf1) ?_; clear hK K hb1) | (go_at_call 36; refine (cntOne_any _).mono ?_; rintro e w1 ⟨rfl, hb1⟩; have hf1 : Fut _ w1 := hb1; refine hK _ _ (.inr hf1) ?_; clear hK K hb1)))
  refine wpF_nil ?_
  go_wp2_with fail
  go_wp2_with (go_at_call 12; refine (awake_any _).mono ?_; rintro e w1 ⟨rfl, hb1⟩; have hf1 : Fut _ w1 := hb1; clear hb1)
  go_ret
  exact ⟨rfl, (by show Fut _ _; repeat (first | (with_reducible assumption) | exact Fut.refl _ | refine Fut.drew ?_ | refine Fut.alloc ?_ _ | refine Fut.trans ?_ (by assumption)))⟩
end Go.Proofs.Ytbkancahbcoedaa
