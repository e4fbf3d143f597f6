/-
  The law of validity, walked: it returns true and turns nothing that was there.
-/
import Derived.Test.YtjoejkfchnooaaaHawake
import Derived.Test.YtjoejkfchnooaaaHval2
namespace Go.Proofs.Ytjoejkfchnooaaa
open Go.RowKit
attribute [local go_sem] Oper.lit Oper.litS fut_fut fut_drew World.cell?_alloc_some
theorem fut_base_drew (b : World) (d : Nat) (os : Array Obj) : fut b.drew d os = fut b d os := rfl
attribute [local go_sem] fut_base_drew
set_option maxHeartbeats 1600000 in
theorem law_hvalid (N : Int) (A : Option Addr) (n c : Nat) (es : List EI) (w : World) (hl : es.length = n) (hn : n ≤ maxLen) (hR : RdE w A es) :
    Calls Try.prog 3 #[hv N A n c] w fun e w' => e = .returned (.bool true) ∧ Below w.heap.size w w' := by
  have HN := Lib.hid hn
  have HR := Lib.hid hR
  have HL := Lib.hid hl
  clear hR hl hn
  have HW := Lib.hid ((Fut.refl w).alloc (.cells #[.int .i64 N, .slice A n c] 24))
  have q0 : ∀ dd os, (fut (w.alloc (.cells #[.int .i64 N, .slice A n c] 24)) dd os).cell? ⟨w.heap.size, 0, none⟩ = some (.int .i64 N) := cell_fut (by (first | (with_reducible assumption) | ((try simp (disch := first | (simp only [World.size_alloc, World.size_drew, World.size_setCell]; done) | (simp only [World.size_alloc, World.size_drew, World.size_setCell]; omega) | omega) only [cell_al_new, cell_al_old, cell_dr]); first | (with_reducible assumption) | rfl | (simp; done))))
  have q1 : ∀ dd os, (fut (w.alloc (.cells #[.int .i64 N, .slice A n c] 24)) dd os).cell? ⟨w.heap.size, 1, none⟩ = some (.slice A n c) := cell_fut (by (first | (with_reducible assumption) | ((try simp (disch := first | (simp only [World.size_alloc, World.size_drew, World.size_setCell]; done) | (simp only [World.size_alloc, World.size_drew, World.size_setCell]; omega) | omega) only [cell_al_new, cell_al_old, cell_dr]); first | (with_reducible assumption) | rfl | (simp; done))))
  have heq : (validB N es == validB N es) = true := beq_self_eq_true _
  by_cases h200 : n ≤ 200
  · have g1 : (200 < n) = False := eq_false (by omega)
    have g2 : ((200 : Int) < (n : Int)) = False := eq_false (by omega)
    go_enter Try.func3, Try.ntmps3
    go_wp2_with (go_at_call 11; refine (awake_any _).mono ?_; rintro e w1 ⟨rfl, hb1⟩; obtain ⟨dd, oo, rfl⟩ := fut_of hb1; clear hb1)
    refine wp_region_M o_emendatelaw27_HypergraphValidMatchesReference_3 (by kernel_rfl) (by kernel_rfl) (by intro c a d v w h; cases d <;> exact h) ?_; unfold o_emendatelaw27_HypergraphValidMatchesReference_3
    iterate 7 (refine wpF_h rfl rfl (fun K hK => ?_); go_simp; refine hK _ _ ?_; clear hK K)
    refine wpF_o rfl rfl (fun K hK => ?_)
    go_simp
    go_at_call 12
    refine (valid_any N A n c es _ HL.out HN.out (HR.out.fut (HW.out.trans (Fut.fut _ _ _)))).mono ?_
    rintro e w2 ⟨rfl, hb2⟩
    have f2 : Fut _ w2 := hb2
    refine hK _ _ (.inr f2) ?_
    clear hK K hb2
    refine wpF_o rfl rfl (fun K hK => ?_)
    go_simp
    go_at_call 13
    refine (rValid_any N A n c es _ HL.out HN.out (HR.out.fut (HW.out.trans ((Fut.fut _ _ _).trans f2)))).mono ?_
    rintro e w3 ⟨rfl, hb3⟩
    have f3 : Fut _ w3 := hb3
    refine hK _ _ (.inr f3) ?_
    clear hK K hb3
    iterate 3 (refine wpF_h rfl rfl (fun K hK => ?_); go_simp; refine hK _ _ ?_; clear hK K)
    refine wpF_nil ?_
    go_wp2_with fail
    go_ret
    exact ⟨rfl, HW.out.trans ((Fut.fut _ _ _).trans (f2.trans f3))⟩
  · have g1 : (200 < n) = True := eq_true (by omega)
    have g2 : ((200 : Int) < (n : Int)) = True := eq_true (by omega)
    go_enter Try.func3, Try.ntmps3
    go_wp2_with (go_at_call 11; refine (awake_any _).mono ?_; rintro e w1 ⟨rfl, hb1⟩; obtain ⟨dd, oo, rfl⟩ := fut_of hb1; clear hb1)
    refine wp_region_M o_emendatelaw27_HypergraphValidMatchesReference_3 (by kernel_rfl) (by kernel_rfl) (by intro c a d v w h; cases d <;> exact h) ?_; unfold o_emendatelaw27_HypergraphValidMatchesReference_3
    iterate 5 (refine wpF_h rfl rfl (fun K hK => ?_); go_simp; refine hK _ _ ?_; clear hK K)
    iterate 2 (refine wpF_hs2 rfl rfl (fun K hK => ?_); go_simp; refine hK _ _ ?_; clear hK K)
    iterate 2 (refine wpF_os2 rfl rfl (fun K hK => ?_); go_simp; refine hK _ _ ?_; clear hK K)
    (refine wpF_hs2 rfl rfl (fun K hK => ?_); go_simp; refine hK _ _ ?_; clear hK K)
    iterate 2 (refine wpF_h rfl rfl (fun K hK => ?_); go_simp; refine hK _ _ ?_; clear hK K)
    refine wpF_nil ?_
    go_wp2_with fail
    go_ret
    exact ⟨rfl, HW.out.trans (Fut.fut _ _ _)⟩
end Go.Proofs.Ytjoejkfchnooaaa
