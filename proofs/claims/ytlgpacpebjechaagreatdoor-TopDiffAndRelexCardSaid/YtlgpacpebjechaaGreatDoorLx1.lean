/-
  The lexer's scanner: a step; what a state accepts.
-/
import Derived.Test.YtlgpacpebjechaaGreatDoorLb
namespace Go.Proofs.YtlgpacpebjechaaGreatDoor
open Go.RowKit Go.Deep
attribute [local go_sem] Oper.lit Oper.litS fut_fut fut_drew World.cell?_alloc_some
/-- the scanner lies in block x, in state q -/
abbrev scCells (p : DP) (n : Nat) (q : Int) : Array Value := #[.slice (some ⟨p.C, 0, none⟩) 256 p.cc, .slice (some ⟨p.N, 0, none⟩) n p.cn, .slice (some ⟨p.A, 0, none⟩) n p.ca, .int .i64 q]
set_option maxHeartbeats 3200000 in
theorem step_any (p : DP) (D : DA) (hD : D.OK) (w : World) (hR : RdA w p D) (x q b : Nat) (hb : b < 256) (hq : q < D.n) (hx : Blk w x 94 (scCells p D.n q)) :
    Calls Tryz.prog 37 #[.pointer (some ⟨x, 0, none⟩), .int .u8 b] w fun e w' => e = .returned (.bool (decide (0 ≤ D.nxt q (D.cls b)))) ∧ Blk w' x 94 (scCells p D.n (D.nxt q (D.cls b))) ∧ FutS (fun k => k == x) w w' := by
  have hc := hD.cls b hb
  obtain ⟨br, cr, h1, h2⟩ := hR.nxt q hq
  have r0 := cell_fut (hR.cls b hb)
  have r1 := cell_fut h1
  have r2 := cell_fut (h2 _ hc)
  have x0 := cell_fut (hx.cell (i := 0) rfl)
  have x1 := cell_fut (hx.cell (i := 1) rfl)
  have x3 := cell_fut (hx.cell (i := 3) rfl)
  have x3' := hx.cell (i := 3) rfl
  have hfz := hx.fz 3
  have HX := Lib.hid hx
  have HD := Lib.hid hD
  clear h1 h2 hx hR hD
  obtain ⟨n, hn⟩ : ∃ n, D.n = n := ⟨_, rfl⟩
  obtain ⟨K, hK0⟩ : ∃ n, D.K = n := ⟨_, rfl⟩
  obtain ⟨cl, hcl⟩ : ∃ n, D.cls b = n := ⟨_, rfl⟩
  obtain ⟨t, ht⟩ : ∃ n, D.nxt q cl = n := ⟨_, rfl⟩
  simp only [hn, hK0, hcl, ht] at *
  have hb1 : ((b : Int) < 256) = True := eq_true (by omega)
  have hc1 : ((cl : Int) < (K : Int)) = True := eq_true (by omega)
  go_enter Tryz.func37, Tryz.ntmps37
  go_wp2_with fail
  refine wp_region_M o_lexer_scanner_step_1 (by kernel_rfl) (by kernel_rfl) (by intro c a d v w h; cases d <;> exact h) ?_; unfold o_lexer_scanner_step_1
  iterate 24 (refine wpF_h rfl rfl (fun K hK => ?_); go_simp; refine hK _ _ ?_; clear hK K)
  refine wpF_ol rfl (by kernel_rfl) rfl (fun K hK => ?_)
  go_simp
  refine hK _ _ ?_
  clear hK K
  refine wpF_nil ?_
  have y3 : ((w.setCell ⟨x, 3, none⟩ (.int .i64 t)).drew).cell? ⟨x, 3, none⟩ = some (.int .i64 t) := (HX.out.set 3 _).cell (i := 3) rfl
  have HY := Lib.hid (HX.out.set 3 (.int .i64 t)).drew
  have HZ := Lib.hid ((futS_set (S := fun k => k == x) w ⟨x, 3, none⟩ (.int .i64 t) (by simp)).drew)
  clear r0 r1 r2 x0 x1 x3 x3' hfz
  go_wp2_with fail
  go_ret
  exact ⟨rfl, HY.out, HZ.out⟩
set_option maxHeartbeats 3200000 in
theorem accepted_any (p : DP) (D : DA) (w : World) (hR : RdA w p D) (x q : Nat) (hq : q < D.n) (hx : Blk w x 94 (scCells p D.n q)) :
    Calls Tryz.prog 38 #[.pointer (some ⟨x, 0, none⟩)] w fun e w' => e = .returned (.int .i64 (D.acc q)) ∧ Fut w w' := by
  have r0 := cell_fut (hR.acc q hq)
  have x2 := cell_fut (hx.cell (i := 2) rfl)
  have x3 := cell_fut (hx.cell (i := 3) rfl)
  clear hx hR
  obtain ⟨n, hn⟩ : ∃ n, D.n = n := ⟨_, rfl⟩
  obtain ⟨t, ht⟩ : ∃ n, D.acc q = n := ⟨_, rfl⟩
  simp only [hn, ht] at *
  have hq1 : ((q : Int) < (n : Int)) = True := eq_true (by omega)
  go_enter Tryz.func38, Tryz.ntmps38
  go_wp2_with fail
  refine wp_region_M o_lexer_scanner_accepted_1 (by kernel_rfl) (by kernel_rfl) (by intro c a d v w h; cases d <;> exact h) ?_; unfold o_lexer_scanner_accepted_1
  iterate 12 (refine wpF_h rfl rfl (fun K hK => ?_); go_simp; refine hK _ _ ?_; clear hK K)
  refine wpF_nil ?_
  go_wp2_with fail
  go_ret
  exact ⟨rfl, (Fut.refl w).drew⟩
end Go.Proofs.YtlgpacpebjechaaGreatDoor
