/-
  The law of undoing an edit, walked.
-/
import Derived.Test.YtgofpppogoabaaaLaws
import Derived.Deep.RegionHeld
namespace Go.Proofs.Ytgofpppogoabaaa
open Go.RowKit
attribute [local go_sem] Oper.lit fut_fut fut_drew World.cell?_alloc_some

theorem mvO_idle {o a : Int} (r : Bool) (ho : 0 ≤ o) (ho1 : o ≤ 1000) (ha : 0 ≤ a) (ha1 : a ≤ 1000) : mvO o r a 0 0 = o := by
  unfold mvO
  have e1 : wrap64 (a + 0) = a := by rw [IntWalk.wrap64_in _ ⟨by omega, by omega⟩]; omega
  have e2 : wrap64 (((0 : Nat) : Int) - 0) = 0 := by decide +kernel
  have e3 : wrap64 (o + 0) = o := by rw [IntWalk.wrap64_in _ ⟨by omega, by omega⟩]; omega
  have e4 : wrap64 (a + ((0 : Nat) : Int)) = a := by rw [IntWalk.wrap64_in _ ⟨by omega, by omega⟩]; omega
  rw [e1, e2, e3, e4]
  repeat' split
  all_goals omega
theorem mvO_undo {o a d : Int} {k m : Nat} (r : Bool) (ho : 0 ≤ o) (ho1 : o ≤ 1000) (ha : 0 ≤ a) (ha1 : a ≤ 1000) (hd : 0 ≤ d) (hd1 : d ≤ 1000) (hk : k ≤ 1000) (hm : (m : Int) = d) (hout : o < a ∨ a + d < o) :
    mvO (mvO o r a d k) r a k m = o := by
  have e1 : wrap64 (a + d) = a + d := IntWalk.wrap64_in _ ⟨by omega, by omega⟩
  have e2 : wrap64 ((k : Int) - d) = k - d := IntWalk.wrap64_in _ ⟨by omega, by omega⟩
  have e3 : wrap64 (o + (k - d)) = o + (k - d) := IntWalk.wrap64_in _ ⟨by omega, by omega⟩
  have e4 : wrap64 (a + k) = a + k := IntWalk.wrap64_in _ ⟨by omega, by omega⟩
  have e5 : wrap64 ((m : Int) - k) = d - k := by rw [hm]; exact IntWalk.wrap64_in _ ⟨by omega, by omega⟩
  have e6 : wrap64 (o + (k - d) + (d - k)) = o := by rw [IntWalk.wrap64_in _ ⟨by omega, by omega⟩]; omega
  rcases hout with h | h
  · have e7 : mvO o r a d k = o := by unfold mvO; rw [if_pos h]
    rw [e7]; unfold mvO; rw [if_pos h]
  · have e7 : mvO o r a d k = o + (k - d) := by unfold mvO; rw [if_neg (by omega), e1, if_pos (by omega), e2, e3]
    rw [e7]; unfold mvO
    rw [if_neg (by omega), e4, if_pos (by omega), e5, e6]

set_option maxHeartbeats 1000000 in
theorem law_undo (o : Int) (r : Bool) (a d : Int) (s t : ByteArray) (w : World) :
    Calls Try.prog 7 #[anc o r, edt a d s, .string t] w fun e w' => e = .returned (.bool true) ∧ Below w.heap.size w w' := by
  obtain ⟨k0, k1, k2, k3, k4⟩ := box2_k w o r a d s
  have hF := box2_fut w o r a d s
  by_cases hs : smallB o a d s.size = true
  · by_cases ht : (t.size : Int) = d
    · obtain ⟨b1, b2, b3, b4, b5, b6, b7⟩ := smallB_spec hs
      have hid := mvO_idle r b1 b2 b3 b4
      have ht1 : ((t.size : Int) != d) = false := by simp [ht]
      have HT := Lib.hid ht
      clear ht
      by_cases ho : a ≤ o ∧ o ≤ a + d
      · obtain ⟨ho1, ho2⟩ := ho
        go_enter Try.func7, Try.ntmps7
        go_wp2_with (first | (go_at_call 8; refine (small_any _ _ _ _ _ _).mono ?_; rintro e w1 ⟨rfl, hb1⟩; first | (obtain ⟨dd, oo, rfl⟩ := fut_of (Fut.trans (Fut.fut _ _ _) hb1); clear hb1) | (obtain ⟨dd, oo, rfl⟩ := fut_of hb1; clear hb1)))
        refine wp_region_F o_emendatelaw02_AnchorUndo_3 (by kernel_rfl) (by kernel_rfl) (by intro c a d v w h; cases d <;> exact h) ?_; unfold o_emendatelaw02_AnchorUndo_3
        repeat (first
            | (refine wpF_h rfl rfl (fun K hK => ?_); go_simp; refine hK _ _ ?_; clear hK K)
            | (refine wpF_o rfl rfl (fun K hK => ?_); go_simp; first | (go_at_call 10; refine (move_any _ _ _ _ _ _).mono ?_; rintro e w1 ⟨rfl, hb1⟩; obtain ⟨dd, oo, rfl⟩ := fut_of (Fut.trans (Fut.fut _ _ _) hb1); refine hK _ _ (.inr hb1) ?_; clear hK K hb1)))
        refine wpF_nil ?_
        go_wp2_with (first | (go_at_call 9; refine (awake_any _).mono ?_; rintro e w1 ⟨rfl, hb1⟩; first | (obtain ⟨dd, oo, rfl⟩ := fut_of (Fut.trans (Fut.fut _ _ _) hb1); clear hb1) | (obtain ⟨dd, oo, rfl⟩ := fut_of hb1; clear hb1)))
        go_ret
        exact ⟨rfl, hF.trans (Fut.fut _ _ _)⟩
      · have hout : o < a ∨ a + d < o := by omega
        have hu := mvO_undo (k := s.size) (m := t.size) r b1 b2 b3 b4 b5 b6 b7 HT.out hout
        rcases hout with ho | ho
        all_goals
          go_enter Try.func7, Try.ntmps7
          go_wp2_with (first | (go_at_call 8; refine (small_any _ _ _ _ _ _).mono ?_; rintro e w1 ⟨rfl, hb1⟩; first | (obtain ⟨dd, oo, rfl⟩ := fut_of (Fut.trans (Fut.fut _ _ _) hb1); clear hb1) | (obtain ⟨dd, oo, rfl⟩ := fut_of hb1; clear hb1)))
          refine wp_region_F o_emendatelaw02_AnchorUndo_3 (by kernel_rfl) (by kernel_rfl) (by intro c a d v w h; cases d <;> exact h) ?_; unfold o_emendatelaw02_AnchorUndo_3
          repeat (first
              | (refine wpF_h rfl rfl (fun K hK => ?_); go_simp; refine hK _ _ ?_; clear hK K)
              | (refine wpF_o rfl rfl (fun K hK => ?_); go_simp; first | (go_at_call 10; refine (move_any _ _ _ _ _ _).mono ?_; rintro e w1 ⟨rfl, hb1⟩; obtain ⟨dd, oo, rfl⟩ := fut_of (Fut.trans (Fut.fut _ _ _) hb1); refine hK _ _ (.inr hb1) ?_; clear hK K hb1)))
          refine wpF_nil ?_
          go_wp2_with fail
          have hz := (Fut.fut (box2 w o r a d s) dd oo).size
          simp only [World.size_alloc] at hz
          have q0 := k0 dd oo
          have q1 := k1 dd oo
          have q2 := k2 dd oo
          have q3 := k3 dd oo
          have q4 := k4 dd oo
          have hF2 : Fut w (fut (box2 w o r a d s) dd oo) := hF.trans (Fut.fut _ _ _)
          generalize hwf : fut (box2 w o r a d s) dd oo = wf at *
          clear k0 k1 k2 k3 k4 hwf
          refine (moveAll_any _ 0 _ 0 1 1 2 2 (fun _ => (o, r)) (fun k => if k = 0 then (a, d, s) else (a, (s.size : Int), t)) _ (by decide) (by decide) (by decide) ?_ ?_ ?_).mono ?_
          · intro k hk
            match k, hk with
            | 0, _ => refine ⟨?_, ?_, ?_⟩ <;> (first | (with_reducible assumption) | ((try simp (disch := first | (simp only [World.size_alloc, World.size_drew, World.size_setCell]; done) | (simp only [World.size_alloc, World.size_drew, World.size_setCell]; omega) | omega) only [cell_al_new, cell_al_old, cell_dr]); first | (with_reducible assumption) | rfl | (simp; done)))
            | 1, _ => refine ⟨?_, ?_, ?_⟩ <;> (first | (with_reducible assumption) | ((try simp (disch := first | (simp only [World.size_alloc, World.size_drew, World.size_setCell]; done) | (simp only [World.size_alloc, World.size_drew, World.size_setCell]; omega) | omega) only [cell_al_new, cell_al_old, cell_dr]); first | (with_reducible assumption) | rfl | (simp; done)))
          · simp
          · intro k hk
            match k, hk with
            | 0, _ => refine ⟨?_, ?_⟩ <;> (first | (with_reducible assumption) | ((try simp (disch := first | (simp only [World.size_alloc, World.size_drew, World.size_setCell]; done) | (simp only [World.size_alloc, World.size_drew, World.size_setCell]; omega) | omega) only [cell_al_new, cell_al_old, cell_dr]); first | (with_reducible assumption) | rfl | (simp; done)))
          rintro e w3 ⟨g, cap, rfl, hA, hb⟩
          obtain ⟨a0, a1⟩ := hA.cell (i := 0) (by decide)
          have e0 : allF (fun k => if k = 0 then (a, d, s) else (a, (s.size : Int), t)) 1 (fun _ => (o, r)) 2 0 = (o, r) := by
            simp [allF, stepF, hu]
          rw [e0] at a0 a1
          have c0 := cell_fut a0
          have c1 := cell_fut a1
          have c2 : ∀ dd os, (fut w3 dd os).cell? ⟨w.heap.size, 0, none⟩ = some (.int .i64 o) := cell_fut (Fut.cell hb (by (first | (with_reducible assumption) | ((try simp (disch := first | (simp only [World.size_alloc, World.size_drew, World.size_setCell]; done) | (simp only [World.size_alloc, World.size_drew, World.size_setCell]; omega) | omega) only [cell_al_new, cell_al_old, cell_dr]); first | (with_reducible assumption) | rfl | (simp; done)))))
          have c3 : ∀ dd os, (fut w3 dd os).cell? ⟨w.heap.size, 1, none⟩ = some (.bool r) := cell_fut (Fut.cell hb (by (first | (with_reducible assumption) | ((try simp (disch := first | (simp only [World.size_alloc, World.size_drew, World.size_setCell]; done) | (simp only [World.size_alloc, World.size_drew, World.size_setCell]; omega) | omega) only [cell_al_new, cell_al_old, cell_dr]); first | (with_reducible assumption) | rfl | (simp; done)))))
          have hF3 : Fut w w3 := ((hF2.alloc _).alloc _).trans hb
          clear a0 a1 e0 hA hb q0 q1 q2 q3 q4 hz hF2 hF hu hid
          go_wp2_with fail
          refine wp_region_F o_emendatelaw02_AnchorUndo_8 (by kernel_rfl) (by kernel_rfl) (by intro c a d v w h; cases d <;> exact h) ?_; unfold o_emendatelaw02_AnchorUndo_8
          repeat (first
            | (refine wpF_h rfl rfl (fun K hK => ?_); go_simp; refine hK _ _ ?_; clear hK K)
            | (refine wpF_o rfl rfl (fun K hK => ?_); go_simp; go_at_call 9; refine (awake_any _).mono ?_; rintro e w4 ⟨rfl, hb1⟩; have hF4 := hF3.trans (Fut.drew (Fut.refl _) |>.trans hb1); refine hK _ _ (.inr hb1) ?_; clear hK K hb1))
          refine wpF_nil ?_
          go_wp2_with fail
          go_ret
          exact ⟨rfl, hF4⟩
    · have ht1 : ((t.size : Int) != d) = true := by simp [ht]
      go_enter Try.func7, Try.ntmps7
      go_wp2_with (first | (go_at_call 8; refine (small_any _ _ _ _ _ _).mono ?_; rintro e w1 ⟨rfl, hb1⟩; first | (obtain ⟨dd, oo, rfl⟩ := fut_of (Fut.trans (Fut.fut _ _ _) hb1); clear hb1) | (obtain ⟨dd, oo, rfl⟩ := fut_of hb1; clear hb1)) | (go_at_call 9; refine (awake_any _).mono ?_; rintro e w1 ⟨rfl, hb1⟩; first | (obtain ⟨dd, oo, rfl⟩ := fut_of (Fut.trans (Fut.fut _ _ _) hb1); clear hb1) | (obtain ⟨dd, oo, rfl⟩ := fut_of hb1; clear hb1)))
      go_ret
      exact ⟨rfl, hF.trans (Fut.fut _ _ _)⟩
  · have hs' : smallB o a d s.size = false := by simpa using hs
    go_enter Try.func7, Try.ntmps7
    go_wp2_with (first | (go_at_call 8; refine (small_any _ _ _ _ _ _).mono ?_; rintro e w1 ⟨rfl, hb1⟩; first | (obtain ⟨dd, oo, rfl⟩ := fut_of (Fut.trans (Fut.fut _ _ _) hb1); clear hb1) | (obtain ⟨dd, oo, rfl⟩ := fut_of hb1; clear hb1)) | (go_at_call 9; refine (awake_any _).mono ?_; rintro e w1 ⟨rfl, hb1⟩; first | (obtain ⟨dd, oo, rfl⟩ := fut_of (Fut.trans (Fut.fut _ _ _) hb1); clear hb1) | (obtain ⟨dd, oo, rfl⟩ := fut_of hb1; clear hb1)))
    go_ret
    exact ⟨rfl, hF.trans (Fut.fut _ _ _)⟩
end Go.Proofs.Ytgofpppogoabaaa
