import Derived.Test.YtgofpppogoabaaaW2
import Derived.Deep.DeepCutAuto
namespace Go.Proofs.Ytgofpppogoabaaa
open Go.RowKit
attribute [local go_sem] Oper.lit
theorem at_exact (n : Int) (w : World) :
    Calls Try.prog 14 #[.int .i64 n] w fun e w' => e = .returned (anc n false) ∧ w' = w.alloc (.cells #[.int .i64 n, .bool false] 23) := by
  go_enter Try.func14, Try.ntmps14
  go_wp2
  go_returns
  exact ⟨rfl, rfl⟩
theorem right_exact (n : Int) (w : World) :
    Calls Try.prog 15 #[.int .i64 n] w fun e w' => e = .returned (anc n true) ∧ w' = w.alloc (.cells #[.int .i64 n, .bool true] 23) := by
  go_enter Try.func15, Try.ntmps15
  go_wp2
  go_returns
  exact ⟨rfl, rfl⟩
def Eaw : Nat → Int × Int × ByteArray := fun k => if k = 0 then (3, 2, ⟨#[97, 98, 99]⟩) else (0, 1, ⟨#[]⟩)
def Faw : Nat → Int × Bool := fun k => if k = 0 then (6, false) else (5, true)
theorem faw0 : allF Eaw 2 Faw 2 0 = (6, false) := by decide +kernel
theorem faw1 : allF Eaw 2 Faw 2 1 = (5, true) := by decide +kernel
def AwR (w : World) (s2 : Value) (wx : World) : Prop := ∃ g cap, s2 = .slice (some ⟨g, 0, none⟩) 2 cap ∧ Ancs wx g cap 2 (allF Eaw 2 Faw 2) ∧ Below w.heap.size w wx ∧ wx.cell? ⟨w.heap.size, 0, none⟩ = some (.int .i64 3) ∧ wx.cell? ⟨w.heap.size, 1, none⟩ = some (.int .i64 2) ∧ wx.cell? ⟨w.heap.size, 2, none⟩ = some (.string ⟨#[97, 98, 99]⟩)
set_option maxHeartbeats 4000000 in
theorem awake_any (w : World) :
    Calls Try.prog 9 #[] w fun e w' => e = .returned (.bool true) ∧ Below w.heap.size w w' := by
  go_enter Try.func9, Try.ntmps9
  go_upto_region 2 with fail
  go_cut [2] (fun s2 wx => AwR w s2 wx)
  case first =>
    have c0 : ∀ d os, (fut (w.alloc (.cells #[.int .i64 3, .int .i64 2, .string ⟨#[97, 98, 99]⟩] 25)) d os).cell? ⟨w.heap.size, 0, none⟩ = some (.int .i64 3) := cell_fut (by simp)
    have c1 : ∀ d os, (fut (w.alloc (.cells #[.int .i64 3, .int .i64 2, .string ⟨#[97, 98, 99]⟩] 25)) d os).cell? ⟨w.heap.size, 1, none⟩ = some (.int .i64 2) := cell_fut (by simp)
    have c2 : ∀ d os, (fut (w.alloc (.cells #[.int .i64 3, .int .i64 2, .string ⟨#[97, 98, 99]⟩] 25)) d os).cell? ⟨w.heap.size, 2, none⟩ = some (.string ⟨#[97, 98, 99]⟩) := cell_fut (by simp)
    refine wp_region_F o_emendatelaw02_awake_2 (by kernel_rfl) (by kernel_rfl) (by intro c a d v w h; cases d <;> exact h) ?_; unfold o_emendatelaw02_awake_2
    repeat (refine wpF_hoist rfl (fun K hK => ?_); go_simp; refine hK _ _ ?_; clear hK K)
    repeat' (first
      | (go_at_K; refine hK _ _ (.inr ((Fut.refl _).alloc _)) ?_; clear hK K)
      | (go_at_call 14; refine (at_exact _ _).mono ?_; rintro e w1 ⟨rfl, rfl⟩; refine hK _ _ (.inr ((Fut.refl _).alloc _)) ?_; clear hK K)
      | (go_at_call 15; refine (right_exact _ _).mono ?_; rintro e w1 ⟨rfl, rfl⟩; refine hK _ _ (.inr ((Fut.refl _).alloc _)) ?_; clear hK K)
      | (refine wpF_hoist rfl (fun K hK => ?_); go_simp; refine hK _ _ ?_; clear hK K)
      | (refine wpF_two rfl rfl (fun K hK => ?_) (fun K hK => ?_) <;> go_simp)
      | (refine wpF_heavy rfl (fun K hK => ?_); go_simp))
    all_goals
      refine (moveAll_any _ 0 _ 0 2 2 2 2 Faw Eaw _ (by decide) (by decide) (by decide) ?_ ?_ ?_).mono ?_
      · intro k hk
        match k, hk with
        | 0, _ => refine ⟨?_, ?_, ?_⟩ <;> (first | (with_reducible assumption) | ((try simp (disch := first | (simp only [World.size_alloc, World.size_drew, World.size_setCell]; done) | (simp only [World.size_alloc, World.size_drew, World.size_setCell]; omega) | omega) only [cell_al_new, cell_al_old, cell_dr]); first | (with_reducible assumption) | rfl | (simp; done)))
        | 1, _ => refine ⟨?_, ?_, ?_⟩ <;> (first | (with_reducible assumption) | ((try simp (disch := first | (simp only [World.size_alloc, World.size_drew, World.size_setCell]; done) | (simp only [World.size_alloc, World.size_drew, World.size_setCell]; omega) | omega) only [cell_al_new, cell_al_old, cell_dr]); first | (with_reducible assumption) | rfl | (simp; done)))
      · simp
      · intro k hk
        match k, hk with
        | 0, _ => refine ⟨?_, ?_⟩ <;> (first | (with_reducible assumption) | ((try simp (disch := first | (simp only [World.size_alloc, World.size_drew, World.size_setCell]; done) | (simp only [World.size_alloc, World.size_drew, World.size_setCell]; omega) | omega) only [cell_al_new, cell_al_old, cell_dr]); first | (with_reducible assumption) | rfl | (simp; done)))
        | 1, _ => refine ⟨?_, ?_⟩ <;> (first | (with_reducible assumption) | ((try simp (disch := first | (simp only [World.size_alloc, World.size_drew, World.size_setCell]; done) | (simp only [World.size_alloc, World.size_drew, World.size_setCell]; omega) | omega) only [cell_al_new, cell_al_old, cell_dr]); first | (with_reducible assumption) | rfl | (simp; done)))
      rintro e w1 ⟨g, cap, rfl, hA, hb⟩
      refine hK _ _ (.inr hb) ?_
      clear hK K
      refine wpF_hoist rfl (fun K hK => ?_)
      go_simp
      refine hK _ _ ?_; clear hK K
      refine wpF_nil ?_
      go_wp2_with fail
      go_meet
      case rel =>
        refine ⟨g, cap, rfl, hA, ?_, ?_, ?_, ?_⟩
        · refine Below.trans ?_ (Below.mono hb (by simp; omega))
          go_grown
        · exact Fut.cell hb (by (first | (with_reducible assumption) | ((try simp (disch := first | (simp only [World.size_alloc, World.size_drew, World.size_setCell]; done) | (simp only [World.size_alloc, World.size_drew, World.size_setCell]; omega) | omega) only [cell_al_new, cell_al_old, cell_dr]); first | (with_reducible assumption) | rfl | (simp; done))))
        · exact Fut.cell hb (by (first | (with_reducible assumption) | ((try simp (disch := first | (simp only [World.size_alloc, World.size_drew, World.size_setCell]; done) | (simp only [World.size_alloc, World.size_drew, World.size_setCell]; omega) | omega) only [cell_al_new, cell_al_old, cell_dr]); first | (with_reducible assumption) | rfl | (simp; done))))
        · exact Fut.cell hb (by (first | (with_reducible assumption) | ((try simp (disch := first | (simp only [World.size_alloc, World.size_drew, World.size_setCell]; done) | (simp only [World.size_alloc, World.size_drew, World.size_setCell]; omega) | omega) only [cell_al_new, cell_al_old, cell_dr]); first | (with_reducible assumption) | rfl | (simp; done))))
  case rest =>
    obtain ⟨g, cap, rfl, hA, hb, k0, k1, k2⟩ := hcut
    have c0 := cell_fut k0
    have c1 := cell_fut k1
    have c2 := cell_fut k2
    obtain ⟨a0, a1⟩ := hA.cell (i := 0) (by decide)
    obtain ⟨a2, a3⟩ := hA.cell (i := 1) (by decide)
    rw [faw0] at a0 a1
    rw [faw1] at a2 a3
    have d0 := cell_fut a0
    have d1 := cell_fut a1
    have d2 := cell_fut a2
    have d3 := cell_fut a3
    clear a0 a1 a2 a3 k0 k1 k2 hA
    go_wp2_with fail
    have m1 : mvO 2 false 3 2 3 = 2 := by decide +kernel
    have m2 : mvO 3 false 3 2 3 = 3 := by decide +kernel
    have m3 : mvO 5 false 3 2 3 = 3 := by decide +kernel
    have m4 : mvO 6 false 3 2 3 = 7 := by decide +kernel
    have m5 : mvO 3 true 3 2 3 = 6 := by decide +kernel
    have m6 : mvO 6 true 3 2 3 = 7 := by decide +kernel
    have hF : Fut w wc.drew := Fut.drew hb
    clear hb
    refine wp_region_F o_emendatelaw02_awake_3 (by kernel_rfl) (by kernel_rfl) (by intro c a d v w h; cases d <;> exact h) ?_; unfold o_emendatelaw02_awake_3
    repeat (first
      | (refine wpF_hoist rfl (fun K hK => ?_); go_simp; refine hK _ _ ?_; clear hK K)
      | (refine wpF_o rfl rfl (fun K hK => ?_); go_simp; first
          | (go_at_call 14; refine (at_any _ _).mono ?_; rintro e w1 ⟨rfl, hb1⟩; refine hK _ _ (.inr hb1) ?_; replace hF := Fut.trans hF hb1; clear hK K hb1)
          | (go_at_call 15; refine (right_any _ _).mono ?_; rintro e w1 ⟨rfl, hb1⟩; refine hK _ _ (.inr hb1) ?_; replace hF := Fut.trans hF hb1; clear hK K hb1)
          | (go_at_call 10; refine (move_any _ _ _ _ _ _).mono ?_; rintro e w1 ⟨rfl, hb1⟩; refine hK _ _ (.inr hb1) ?_; replace hF := Fut.trans hF hb1; clear hK K hb1)))
    refine wpF_nil ?_
    go_wp2_with fail
    go_ret
    exact ⟨rfl, hF⟩
end Go.Proofs.Ytgofpppogoabaaa
