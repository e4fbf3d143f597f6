/-
  The examples of the document hold.
-/
import Derived.Test.YtbkancahbcoedaaSum
namespace Go.Proofs.Ytbkancahbcoedaa
open Go.RowKit
attribute [local go_sem] Oper.lit fut_fut fut_drew World.cell?_alloc_some
theorem lexZero_b (w : World) : Calls Try.prog 37 #[uu] w fun e w' => e = .returned (vv 1099511627776 0) ∧ Below w.heap.size w w' :=
  (lexZero_any w).mono fun e w' ⟨h, h2⟩ => ⟨h, by rw [h2]; exact ((Fut.refl w).alloc _).alloc _⟩
theorem rd345 (w : World) (t : TypeId) : Rd1 (w.alloc (.cells #[.int .i64 3, .int .i64 4, .int .i64 5] t)) (some ⟨w.heap.size, 0, none⟩) (Value.int .i64 ·) [3, 4, 5] := by
  intro i a hi
  match i with
  | 0 => simp at hi; subst hi; exact ⟨_, _, rfl, by (first | (with_reducible assumption) | ((try simp (disch := first | (simp only [World.size_alloc, World.size_drew, World.size_setCell]; done) | (simp only [World.size_alloc, World.size_drew, World.size_setCell]; omega) | omega) only [cell_al_new, cell_al_old, cell_dr]); first | (with_reducible assumption) | rfl | (simp; done)))⟩
  | 1 => simp at hi; subst hi; exact ⟨_, _, rfl, by (first | (with_reducible assumption) | ((try simp (disch := first | (simp only [World.size_alloc, World.size_drew, World.size_setCell]; done) | (simp only [World.size_alloc, World.size_drew, World.size_setCell]; omega) | omega) only [cell_al_new, cell_al_old, cell_dr]); first | (with_reducible assumption) | rfl | (simp; done)))⟩
  | 2 => simp at hi; subst hi; exact ⟨_, _, rfl, by (first | (with_reducible assumption) | ((try simp (disch := first | (simp only [World.size_alloc, World.size_drew, World.size_setCell]; done) | (simp only [World.size_alloc, World.size_drew, World.size_setCell]; omega) | omega) only [cell_al_new, cell_al_old, cell_dr]); first | (with_reducible assumption) | rfl | (simp; done)))⟩
  | n + 3 => simp at hi
theorem in345 : ∀ x ∈ ([3, 4, 5] : List Int), (fun x => 0 ≤ x ∧ x ≤ 1099511627776) x := by
  intro x hx
  simp only [List.mem_cons, List.not_mem_nil, or_false] at hx
  rcases hx with rfl | rfl | rfl <;> decide
set_option maxHeartbeats 8000000 in
theorem awake_any (w : World) : Calls Try.prog 12 #[] w fun e w' => e = .returned (.bool true) ∧ Below w.heap.size w w' := by
  have f1 : minF 3 5 = 3 := by decide
  have f2 : plusF 3 5 = 8 := by decide
  have f3 : vaC 3 7 3 2 = 3 := by decide
  have f4 : vaS 3 7 3 2 = 2 := by decide
  have f5 : vmC 3 3 = 6 := by decide
  have f6 : vmS 3 7 3 2 = 9 := by decide
  have f7 : mulF 3 5 = 15 := by decide
  have f8 : [(3 : Int), 4, 5].foldl plusF 0 = 12 := by decide
  go_enter Try.func12, Try.ntmps12
  go_wp2_with fail
  have hF : Fut w ((((w.alloc (.cells #[] 36)).alloc (.cells #[] 27)).alloc (.cells #[] 37)).alloc (.cells #[] 45)).drew := ((((Fut.refl w).alloc _).alloc _).alloc _).alloc _ |>.drew
  refine wp_region_M o_emendatelaw26_awake_2 (by kernel_rfl) (by kernel_rfl) (by intro c a d v w h; cases d <;> exact h) ?_; unfold o_emendatelaw26_awake_2
  repeat (first
    | (refine wpF_h rfl rfl (fun K hK => ?_); go_simp; refine hK _ _ ?_; clear hK K)
    | (refine wpF_o rfl rfl (fun K hK => ?_); go_simp; first
        | (go_at_K; refine hK _ _ (.inr ((Fut.refl _).alloc _)) ?_; replace hF := hF.alloc (.cells #[.int .i64 3, .int .i64 4, .int .i64 5] 3); clear hK K)
        | (go_at_call 29; refine (tropAdd_any _ _ _).mono ?_; rintro e w1 ⟨rfl, hb1⟩; refine hK _ _ (.inr hb1) ?_; replace hF := Fut.trans hF hb1; clear hK K hb1)
        | (go_at_call 31; refine (tropMul_any _ _ (by decide) (by decide) (by decide) (by decide) _).mono ?_; rintro e w1 ⟨rfl, hb1⟩; refine hK _ _ (.inr hb1) ?_; replace hF := Fut.trans hF hb1; clear hK K hb1)
        | (go_at_call 13; refine (lexAdd_any _ _ _ _ _).mono ?_; rintro e w1 ⟨rfl, hb1⟩; refine hK _ _ (.inr hb1) ?_; replace hF := Fut.trans hF hb1; clear hK K hb1)
        | (go_at_call 15; refine (lexMul_any _ _ _ _ (by decide) (by decide) (by decide) (by decide) (by decide) (by decide) (by decide) (by decide) _).mono ?_; rintro e w1 ⟨rfl, hb1⟩; refine hK _ _ (.inr hb1) ?_; replace hF := Fut.trans hF hb1; clear hK K hb1)
        | (go_at_call 30; refine (tropZero_any _).mono ?_; rintro e w1 ⟨rfl, hb1⟩; refine hK _ _ (.inr hb1) ?_; replace hF := Fut.trans hF hb1; clear hK K hb1)
        | (go_at_call 36; refine (cntOne_any _).mono ?_; rintro e w1 ⟨rfl, hb1⟩; refine hK _ _ (.inr hb1) ?_; replace hF := Fut.trans hF hb1; clear hK K hb1)
        | (go_at_call 35; refine (cntMul_any _ _ (by decide) (by decide) (by decide) (by decide) _).mono ?_; rintro e w1 ⟨rfl, hb1⟩; refine hK _ _ (.inr hb1) ?_; replace hF := Fut.trans hF hb1; clear hK K hb1)
        | (go_at_call 46; refine (boolOne_any _).mono ?_; rintro e w1 ⟨rfl, hb1⟩; refine hK _ _ (.inr hb1) ?_; replace hF := Fut.trans hF hb1; clear hK K hb1)
        | (go_at_call 47; refine (boolZero_any _).mono ?_; rintro e w1 ⟨rfl, hb1⟩; refine hK _ _ (.inr hb1) ?_; replace hF := Fut.trans hF hb1; clear hK K hb1)
        | (go_at_call 37; refine (lexZero_b _).mono ?_; rintro e w1 ⟨rfl, hb1⟩; refine hK _ _ (.inr hb1) ?_; replace hF := Fut.trans hF hb1; clear hK K hb1)
        | (go_at_call 17; refine (lexEqual_any _ _ _ _ _).mono ?_; rintro e w1 ⟨rfl, hb1⟩; refine hK _ _ (.inr hb1) ?_; replace hF := Fut.trans hF hb1; clear hK K hb1)
        | (go_at_call 24; refine (sumCnt _ 3 3 [3, 4, 5] _ rfl (by decide) in345 (rd345 _ _)).mono ?_; rintro e w1 ⟨rfl, hb1⟩; refine hK _ _ (.inr hb1) ?_; replace hF := Fut.trans hF hb1; clear hK K hb1)
        | (go_at_call 25; refine (prodTrop _ 3 3 [3, 4, 5] _ rfl (by decide) in345 (rd345 _ _)).mono ?_; rintro e w1 ⟨rfl, hb1⟩; refine hK _ _ (.inr hb1) ?_; replace hF := Fut.trans hF hb1; clear hK K hb1)))
  refine wpF_nil ?_
  go_wp2_with fail
  go_ret
  exact ⟨rfl, hF⟩

end Go.Proofs.Ytbkancahbcoedaa
