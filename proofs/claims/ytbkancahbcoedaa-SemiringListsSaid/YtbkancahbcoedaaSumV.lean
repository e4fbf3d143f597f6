/-
  Sums and products of lists of values.
-/
import Derived.Test.YtbkancahbcoedaaFoldV
import Derived.Test.YtbkancahbcoedaaSawake
import Derived.Test.YtbkancahbcoedaaSplain
namespace Go.Proofs.Ytbkancahbcoedaa
open Go.RowKit
attribute [local go_sem] Oper.lit fut_fut fut_drew World.cell?_alloc_some
abbrev vaP (p q : Int × Int) : Int × Int := (vaC p.1 p.2 q.1 q.2, vaS p.1 p.2 q.1 q.2)
abbrev vmP (p q : Int × Int) : Int × Int := (vmC p.1 q.1, vmS p.1 p.2 q.1 q.2)
abbrev vI (p : Int × Int) : Prop := valB p.1 p.2 = true
theorem vaP_I (a b : Int × Int) (h : vI a) (k : vI b) : vI (vaP a b) := va_bd h k
theorem vmP_I (a b : Int × Int) (h : vI a) (k : vI b) : vI (vmP a b) := vm_bd h k
theorem lexAdd_p (a b : Int × Int) (w : World) (_ : vI a) (_ : vI b) : Calls Try.prog 13 #[uu, pv a, pv b] w fun e w' => e = .returned (pv (vaP a b)) ∧ Below w.heap.size w w' := lexAdd_any _ _ _ _ w
theorem lexMul_p (a b : Int × Int) (w : World) (h : vI a) (k : vI b) : Calls Try.prog 15 #[uu, pv a, pv b] w fun e w' => e = .returned (pv (vmP a b)) ∧ Below w.heap.size w w' := by
  have h1 := valB_bd h
  have h2 := valB_bd k
  exact lexMul_any _ _ _ _ h1.1 h1.2.1 h1.2.2.1 h1.2.2.2 h2.1 h2.2.1 h2.2.2.1 h2.2.2.2 w
set_option maxHeartbeats 1600000 in
theorem sumVal (A : Option Addr) (n c : Nat) (l : List (Int × Int)) (w : World) (hl : l.length = n) (hn : n ≤ 1000) (hE : ∀ x ∈ l, vI x) (hR : RdS w A 2 pe l) :
    Calls Try.prog 26 #[.iface 27 uu, .slice A n c] w fun e w' => e = .returned (pv (l.foldl vaP (1099511627776, 0))) ∧ Below w.heap.size w w' := by
  have HR := Lib.hid hR
  have HL := Lib.hid hl
  have HE := Lib.hid hE
  clear hR hl hE
  have hmz := m_Lexicographic_Zero
  go_enter Try.func26, Try.ntmps26
  go_wp2_with fail
  refine wp_region_M o_semiring_Sum_api_Value_1 (by kernel_rfl) (by kernel_rfl) (by intro c a d v w h; cases d <;> exact h) ?_; unfold o_semiring_Sum_api_Value_1
  repeat (refine wpF_h rfl rfl (fun K hK => ?_); go_simp; refine hK _ _ ?_; clear hK K)
  refine wpF_o rfl rfl (fun K hK => ?_)
  go_simp
  refine (lexZero_b _).mono ?_
  rintro e w1 ⟨rfl, hb1⟩
  refine hK _ _ (.inr hb1) ?_
  clear hK K
  have hF : Fut (w.alloc (.cells #[.int .i64 0, .int .i64 0] 23)) w1 := (Fut.refl _).drew.trans hb1
  clear hb1
  refine wpF_o rfl rfl (fun K hK => ?_)
  go_simp
  refine (foldVal_any 27 "Add" 13 vaP vI vI m_Lexicographic_Add c_Lexicographic_Add (fun a b w h k => lexAdd_p a b w h k) vaP_I (1099511627776, 0) A n c l _ (by decide) HL.out hn HE.out ((HR.out.fut ((Fut.refl _).alloc _)).fut hF)).mono ?_
  rintro e w2 ⟨rfl, hb2⟩
  refine hK _ _ (.inr hb2) ?_
  clear hK K
  replace hF := Fut.trans hF hb2
  clear hb2
  have hbl : w2.heap[w.heap.size]? = some (.cells #[.int .i64 0, .int .i64 0] 23 (0, 0)) := (hF.block _ (by simp only [World.size_alloc]; omega)).trans (heap_alloc_new _ _)
  have HFF := Lib.hid hF
  clear hF
  obtain ⟨⟨r1, r2⟩, hr⟩ : ∃ r : Int × Int, l.foldl vaP (1099511627776, 0) = r := ⟨_, rfl⟩
  have HRR := Lib.hid hr
  rw [hr]
  clear hr
  have hda : w2.cell? ⟨w.heap.size, 0, none⟩ = some (.int .i64 0) := cell_of_row _ _ 0 _ _ _ hbl
  have hdb : w2.cell? ⟨w.heap.size, 1, none⟩ = some (.int .i64 0) := cell_of_row _ _ 1 _ _ _ hbl
  have hfa : w2.frozen? ⟨w.heap.size, 0, none⟩ = false := frozen_of_row _ _ 0 _ _ hbl
  have hfb : w2.frozen? ⟨w.heap.size, 1, none⟩ = false := frozen_of_row _ _ 1 _ _ hbl
  have hra : (w2.setCell ⟨w.heap.size, 0, none⟩ (.int .i64 r1)).cell? ⟨w.heap.size, 0, none⟩ = some (.int .i64 r1) := cell_of_row _ _ 0 _ _ _ (Joins.block_setCell hbl _)
  have hrb : ((w2.setCell ⟨w.heap.size, 0, none⟩ (.int .i64 r1)).setCell ⟨w.heap.size, 1, none⟩ (.int .i64 r2)).cell? ⟨w.heap.size, 1, none⟩ = some (.int .i64 r2) := cell_of_row _ _ 1 _ _ _ (Joins.block_setCell (Joins.block_setCell hbl _) _)
  clear hbl
  refine wpF_o rfl rfl (fun K hK => ?_)
  go_simp
  refine hK _ _ (.inl (by kernel_rfl)) ?_
  clear hK K
  refine wpF_nil ?_
  go_wp2_with fail
  (try simp only [Exit.inBlock, Exit.then])
  refine bodyPost_ret (by simp [results, Try.results26, go_sem, hra, hrb]; try rfl) rfl ?_
  exact ⟨by rw [HRR.out], ((Fut.trans ((Fut.refl w).alloc _) HFF.out).setCell (Nat.le_refl _) _).setCell (Nat.le_refl _) _⟩
set_option maxHeartbeats 1600000 in
theorem prodVal (A : Option Addr) (n c : Nat) (l : List (Int × Int)) (w : World) (hl : l.length = n) (hn : n ≤ 1000) (hE : ∀ x ∈ l, vI x) (hR : RdS w A 2 pe l) :
    Calls Try.prog 27 #[.iface 27 uu, .slice A n c] w fun e w' => e = .returned (pv (l.foldl vmP (0, 0))) ∧ Below w.heap.size w w' := by
  have HR := Lib.hid hR
  have HL := Lib.hid hl
  have HE := Lib.hid hE
  clear hR hl hE
  have hmz := m_Lexicographic_One
  go_enter Try.func27, Try.ntmps27
  go_wp2_with fail
  refine wp_region_M o_semiring_Product_api_Value_1 (by kernel_rfl) (by kernel_rfl) (by intro c a d v w h; cases d <;> exact h) ?_; unfold o_semiring_Product_api_Value_1
  repeat (refine wpF_h rfl rfl (fun K hK => ?_); go_simp; refine hK _ _ ?_; clear hK K)
  refine wpF_o rfl rfl (fun K hK => ?_)
  go_simp
  refine (lexOne_any _).mono ?_
  rintro e w1 ⟨rfl, hb1⟩
  refine hK _ _ (.inr hb1) ?_
  clear hK K
  have hF : Fut (w.alloc (.cells #[.int .i64 0, .int .i64 0] 23)) w1 := (Fut.refl _).drew.trans hb1
  clear hb1
  refine wpF_o rfl rfl (fun K hK => ?_)
  go_simp
  refine (foldVal_any 27 "Mul" 15 vmP vI vI m_Lexicographic_Mul c_Lexicographic_Mul (fun a b w h k => lexMul_p a b w h k) vmP_I (0, 0) A n c l _ (by decide) HL.out hn HE.out ((HR.out.fut ((Fut.refl _).alloc _)).fut hF)).mono ?_
  rintro e w2 ⟨rfl, hb2⟩
  refine hK _ _ (.inr hb2) ?_
  clear hK K
  replace hF := Fut.trans hF hb2
  clear hb2
  have hbl : w2.heap[w.heap.size]? = some (.cells #[.int .i64 0, .int .i64 0] 23 (0, 0)) := (hF.block _ (by simp only [World.size_alloc]; omega)).trans (heap_alloc_new _ _)
  have HFF := Lib.hid hF
  clear hF
  obtain ⟨⟨r1, r2⟩, hr⟩ : ∃ r : Int × Int, l.foldl vmP (0, 0) = r := ⟨_, rfl⟩
  have HRR := Lib.hid hr
  rw [hr]
  clear hr
  have hda : w2.cell? ⟨w.heap.size, 0, none⟩ = some (.int .i64 0) := cell_of_row _ _ 0 _ _ _ hbl
  have hdb : w2.cell? ⟨w.heap.size, 1, none⟩ = some (.int .i64 0) := cell_of_row _ _ 1 _ _ _ hbl
  have hfa : w2.frozen? ⟨w.heap.size, 0, none⟩ = false := frozen_of_row _ _ 0 _ _ hbl
  have hfb : w2.frozen? ⟨w.heap.size, 1, none⟩ = false := frozen_of_row _ _ 1 _ _ hbl
  have hra : (w2.setCell ⟨w.heap.size, 0, none⟩ (.int .i64 r1)).cell? ⟨w.heap.size, 0, none⟩ = some (.int .i64 r1) := cell_of_row _ _ 0 _ _ _ (Joins.block_setCell hbl _)
  have hrb : ((w2.setCell ⟨w.heap.size, 0, none⟩ (.int .i64 r1)).setCell ⟨w.heap.size, 1, none⟩ (.int .i64 r2)).cell? ⟨w.heap.size, 1, none⟩ = some (.int .i64 r2) := cell_of_row _ _ 1 _ _ _ (Joins.block_setCell (Joins.block_setCell hbl _) _)
  clear hbl
  refine wpF_o rfl rfl (fun K hK => ?_)
  go_simp
  refine hK _ _ (.inl (by kernel_rfl)) ?_
  clear hK K
  refine wpF_nil ?_
  go_wp2_with fail
  (try simp only [Exit.inBlock, Exit.then])
  refine bodyPost_ret (by simp [results, Try.results27, go_sem, hra, hrb]; try rfl) rfl ?_
  exact ⟨by rw [HRR.out], ((Fut.trans ((Fut.refl w).alloc _) HFF.out).setCell (Nat.le_refl _) _).setCell (Nat.le_refl _) _⟩
end Go.Proofs.Ytbkancahbcoedaa
