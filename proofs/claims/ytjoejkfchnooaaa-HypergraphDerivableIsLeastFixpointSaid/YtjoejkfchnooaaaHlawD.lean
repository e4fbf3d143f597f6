/-
  The law of derivable nodes, walked: it returns true and turns nothing that was there.
-/
import Derived.Test.YtjoejkfchnooaaaHsm
import Derived.Test.YtjoejkfchnooaaaHrder
namespace Go.Proofs.Ytjoejkfchnooaaa
open Go.RowKit
attribute [local go_sem] Oper.lit Oper.litS fut_fut fut_drew World.cell?_alloc_some
attribute [local go_sem] fut_base_drew
set_option maxHeartbeats 1600000 in
theorem law_hderiv (N : Int) (A : Option Addr) (n c : Nat) (es : List EI) (w : World) (hl : es.length = n) (hn : n ≤ maxLen) (hR : RdE w A es) :
    Calls Try.prog 4 #[hv N A n c] w fun e w' => e = .returned (.bool true) ∧ Below w.heap.size w w' := by
  have HN := Lib.hid hn
  have HR := Lib.hid hR
  have HL := Lib.hid hl
  clear hR hl hn
  have HW := Lib.hid ((Fut.refl w).alloc (.cells #[.int .i64 N, .slice A n c] 24))
  have q0 : ∀ dd os, (fut (w.alloc (.cells #[.int .i64 N, .slice A n c] 24)) dd os).cell? ⟨w.heap.size, 0, none⟩ = some (.int .i64 N) := cell_fut (by (first | (with_reducible assumption) | ((try simp (disch := first | (simp only [World.size_alloc, World.size_drew, World.size_setCell]; done) | (simp only [World.size_alloc, World.size_drew, World.size_setCell]; omega) | omega) only [cell_al_new, cell_al_old, cell_dr]); first | (with_reducible assumption) | rfl | (simp; done))))
  have q1 : ∀ dd os, (fut (w.alloc (.cells #[.int .i64 N, .slice A n c] 24)) dd os).cell? ⟨w.heap.size, 1, none⟩ = some (.slice A n c) := cell_fut (by (first | (with_reducible assumption) | ((try simp (disch := first | (simp only [World.size_alloc, World.size_drew, World.size_setCell]; done) | (simp only [World.size_alloc, World.size_drew, World.size_setCell]; omega) | omega) only [cell_al_new, cell_al_old, cell_dr]); first | (with_reducible assumption) | rfl | (simp; done))))
  go_enter Try.func4, Try.ntmps4
  go_wp2_with (go_at_call 11; refine (awake_any _).mono ?_; rintro e w1 ⟨rfl, hb1⟩; obtain ⟨dd, oo, rfl⟩ := fut_of hb1; clear hb1)
  refine wp_region_M o_emendatelaw27_HypergraphDerivableIsLeastFixpoint_3 (by kernel_rfl) (by kernel_rfl) (by intro c a d v w h; cases d <;> exact h) ?_; unfold o_emendatelaw27_HypergraphDerivableIsLeastFixpoint_3
  (refine wpF_h rfl rfl (fun K hK => ?_); go_simp; refine hK _ _ ?_; clear hK K)
  refine wpF_o rfl rfl (fun K hK => ?_)
  go_simp
  go_at_call 14
  refine (small_any N A n c es _ HL.out HN.out (HR.out.fut (HW.out.trans (Fut.fut _ _ _)))).mono ?_
  rintro e w2 ⟨rfl, hb2⟩
  have f2 : Fut _ w2 := hb2
  refine hK _ _ (.inr f2) ?_
  clear hK K hb2
  cases hs : smallB N es with
  | false =>
    clear hs
    iterate 2 (refine wpF_h rfl rfl (fun K hK => ?_); go_simp; refine hK _ _ ?_; clear hK K)
    iterate 2 (refine wpF_hs2 rfl rfl (fun K hK => ?_); go_simp; refine hK _ _ ?_; clear hK K)
    iterate 3 (refine wpF_os2 rfl rfl (fun K hK => ?_); go_simp; refine hK _ _ ?_; clear hK K)
    iterate 2 (refine wpF_h rfl rfl (fun K hK => ?_); go_simp; refine hK _ _ ?_; clear hK K)
    refine wpF_nil ?_
    go_wp2_with fail
    go_ret
    exact ⟨rfl, HW.out.trans ((Fut.fut _ _ _).trans f2)⟩
  | true =>
    obtain ⟨M, rfl, hM, hn60, hval, hsum, hM1, hhd, htl, h4⟩ := small_parts HL.out hs
    have HHD := Lib.hid hhd
    have HTL := Lib.hid htl
    have HSUM := Lib.hid hsum
    clear hs hval hsum hhd htl h4
    iterate 2 (refine wpF_h rfl rfl (fun K hK => ?_); go_simp; refine hK _ _ ?_; clear hK K)
    iterate 2 (refine wpF_h rfl rfl (fun K hK => ?_); go_simp; refine hK _ _ ?_; clear hK K)
    refine wpF_o rfl rfl (fun K hK => ?_)
    go_simp
    go_at_call 16
    refine (derive_any M A n c es _ HL.out (by omega) (by omega) HHD.out HTL.out HSUM.out (HR.out.fut (HW.out.trans ((Fut.fut _ _ _).trans f2)))).mono ?_
    rintro e w3 ⟨b3, rfl, hd3, hb3⟩
    have f3 : Fut _ w3 := hb3
    refine hK _ _ (.inr f3) ?_
    have HD3 := Lib.hid hd3
    clear hK K hb3 hd3
    refine wpF_o rfl rfl (fun K hK => ?_)
    go_simp
    go_at_call 17
    refine (rDerive_any M A n c es _ HL.out (by omega) (by omega) HHD.out HTL.out (HR.out.fut (HW.out.trans ((Fut.fut _ _ _).trans (f2.trans f3))))).mono ?_
    rintro e w4 ⟨b4, rfl, hd4, hb4⟩
    have f4 : Fut _ w4 := hb4
    refine hK _ _ (.inr f4) ?_
    have HD4 := Lib.hid hd4
    clear hK K hb4 hd4
    refine wpF_o rfl rfl (fun K hK => ?_)
    go_simp
    go_at_call 15
    refine (sameBools_any (some ⟨b3, 0, none⟩) (some ⟨b4, 0, none⟩) M M M M (derL es M) (derL es M) _ (derL_len _ _) (derL_len _ _) (by unfold maxLen; omega) (by unfold maxLen; omega) (HD3.out.fut f4) HD4.out).mono ?_
    rintro e w5 ⟨rfl, hb5⟩
    have f5 : Fut _ w5 := hb5
    refine hK _ _ (.inr f5) ?_
    clear hK K hb5
    rw [show decide (derL es M = derL es M) = true from decide_eq_true rfl]
    iterate 2 (refine wpF_h rfl rfl (fun K hK => ?_); go_simp; refine hK _ _ ?_; clear hK K)
    refine wpF_nil ?_
    go_wp2_with fail
    go_ret
    exact ⟨rfl, HW.out.trans ((Fut.fut _ _ _).trans (f2.trans (f3.trans (f4.trans f5))))⟩
end Go.Proofs.Ytjoejkfchnooaaa
