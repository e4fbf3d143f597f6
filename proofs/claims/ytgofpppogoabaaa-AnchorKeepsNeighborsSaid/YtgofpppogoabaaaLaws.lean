/-
  The laws of anchors, walked: each returns true and turns nothing that was there.
-/
import Derived.Test.YtgofpppogoabaaaAnchor3
namespace Go.Proofs.Ytgofpppogoabaaa
open Go.RowKit
attribute [local go_sem] Oper.lit fut_fut fut_drew

theorem fld_0 (x y : Value) (w : World) : (Instr.field 23 (.agg #[x, y]) 0).run Try.prog w = .ok x w := by kernel_rfl
attribute [local go_sem] fld_0

theorem smallB_spec {o a d : Int} {n : Nat} (h : smallB o a d n = true) : 0 ≤ o ∧ o ≤ 1000 ∧ 0 ≤ a ∧ a ≤ 1000 ∧ 0 ≤ d ∧ d ≤ 1000 ∧ n ≤ 1000 := by
  simp only [smallB, Bool.and_eq_true, decide_eq_true_eq] at h; omega
theorem fitsB_spec {a d n : Int} (h : fitsB a d n = true) (hn : n ≤ 1000) : 0 ≤ a ∧ 0 ≤ d ∧ a ≤ n ∧ d ≤ n - a := by
  simp only [fitsB, Bool.and_eq_true, decide_eq_true_eq] at h
  obtain ⟨⟨⟨h1, h2⟩, h3⟩, h4⟩ := h
  rw [IntWalk.wrap64_in _ ⟨by omega, by omega⟩] at h4
  omega

/-- two boxes behind w -/
abbrev box2 (w : World) (o : Int) (r : Bool) (a d : Int) (s : ByteArray) : World := (w.alloc (.cells #[.int .i64 o, .bool r] 23)).alloc (.cells #[.int .i64 a, .int .i64 d, .string s] 25)
theorem box2_k (w : World) (o : Int) (r : Bool) (a d : Int) (s : ByteArray) :
    (∀ dd os, (fut (box2 w o r a d s) dd os).cell? ⟨w.heap.size, 0, none⟩ = some (.int .i64 o)) ∧ (∀ dd os, (fut (box2 w o r a d s) dd os).cell? ⟨w.heap.size, 1, none⟩ = some (.bool r)) ∧
    (∀ dd os, (fut (box2 w o r a d s) dd os).cell? ⟨w.heap.size + 1, 0, none⟩ = some (.int .i64 a)) ∧ (∀ dd os, (fut (box2 w o r a d s) dd os).cell? ⟨w.heap.size + 1, 1, none⟩ = some (.int .i64 d)) ∧
    (∀ dd os, (fut (box2 w o r a d s) dd os).cell? ⟨w.heap.size + 1, 2, none⟩ = some (.string s)) :=
  ⟨cell_fut (by (first | (with_reducible assumption) | ((try simp (disch := first | (simp only [World.size_alloc, World.size_drew, World.size_setCell]; done) | (simp only [World.size_alloc, World.size_drew, World.size_setCell]; omega) | omega) only [cell_al_new, cell_al_old, cell_dr]); first | (with_reducible assumption) | rfl | (simp; done)))), cell_fut (by (first | (with_reducible assumption) | ((try simp (disch := first | (simp only [World.size_alloc, World.size_drew, World.size_setCell]; done) | (simp only [World.size_alloc, World.size_drew, World.size_setCell]; omega) | omega) only [cell_al_new, cell_al_old, cell_dr]); first | (with_reducible assumption) | rfl | (simp; done)))), cell_fut (by (first | (with_reducible assumption) | ((try simp (disch := first | (simp only [World.size_alloc, World.size_drew, World.size_setCell]; done) | (simp only [World.size_alloc, World.size_drew, World.size_setCell]; omega) | omega) only [cell_al_new, cell_al_old, cell_dr]); first | (with_reducible assumption) | rfl | (simp; done)))), cell_fut (by (first | (with_reducible assumption) | ((try simp (disch := first | (simp only [World.size_alloc, World.size_drew, World.size_setCell]; done) | (simp only [World.size_alloc, World.size_drew, World.size_setCell]; omega) | omega) only [cell_al_new, cell_al_old, cell_dr]); first | (with_reducible assumption) | rfl | (simp; done)))), cell_fut (by (first | (with_reducible assumption) | ((try simp (disch := first | (simp only [World.size_alloc, World.size_drew, World.size_setCell]; done) | (simp only [World.size_alloc, World.size_drew, World.size_setCell]; omega) | omega) only [cell_al_new, cell_al_old, cell_dr]); first | (with_reducible assumption) | rfl | (simp; done))))⟩
theorem box2_fut (w : World) (o : Int) (r : Bool) (a d : Int) (s : ByteArray) : Fut w (box2 w o r a d s) := ((Fut.refl w).alloc _).alloc _

set_option maxHeartbeats 1000000 in
theorem law_move (o : Int) (r : Bool) (a d : Int) (s : ByteArray) (w : World) :
    Calls Try.prog 3 #[anc o r, edt a d s] w fun e w' => e = .returned (.bool true) ∧ Below w.heap.size w w' := by
  obtain ⟨k0, k1, k2, k3, k4⟩ := box2_k w o r a d s
  have hF := box2_fut w o r a d s
  by_cases hs : smallB o a d s.size = true
  · obtain ⟨b1, b2, b3, b4, b5, b6, b7⟩ := smallB_spec hs
    go_enter Try.func3, Try.ntmps3
    go_wp2_with (go_at_call 8; refine (small_any _ _ _ _ _ _).mono ?_; rintro e w1 ⟨rfl, hb1⟩; first | (obtain ⟨dd, oo, rfl⟩ := fut_of (Fut.trans (Fut.fut _ _ _) hb1); clear hb1) | (obtain ⟨dd, oo, rfl⟩ := fut_of hb1; clear hb1))
    refine wp_region_F o_emendatelaw02_AnchorMove_3 (by kernel_rfl) (by kernel_rfl) (by intro c a d v w h; cases d <;> exact h) ?_; unfold o_emendatelaw02_AnchorMove_3
    repeat (first
      | (refine wpF_h rfl rfl (fun K hK => ?_); go_simp; refine hK _ _ ?_; clear hK K)
      | (refine wpF_o rfl rfl (fun K hK => ?_); go_simp; first | (go_at_call 9; refine (awake_any _).mono ?_; rintro e w1 ⟨rfl, hb1⟩; obtain ⟨dd, oo, rfl⟩ := fut_of (Fut.trans (Fut.fut _ _ _) hb1); refine hK _ _ (.inr hb1) ?_; clear hK K hb1) | (go_at_call 10; refine (move_any _ _ _ _ _ _).mono ?_; rintro e w1 ⟨rfl, hb1⟩; obtain ⟨dd, oo, rfl⟩ := fut_of (Fut.trans (Fut.fut _ _ _) hb1); refine hK _ _ (.inr hb1) ?_; clear hK K hb1) | (go_at_call 11; refine (refMove_any _ _ _ _ _ _ b1 b2 b3 b4 b5 b6 b7).mono ?_; rintro e w1 ⟨rfl, hb1⟩; obtain ⟨dd, oo, rfl⟩ := fut_of (Fut.trans (Fut.fut _ _ _) hb1); refine hK _ _ (.inr hb1) ?_; clear hK K hb1)))
    refine wpF_nil ?_
    go_wp2_with fail
    go_ret
    exact ⟨rfl, hF.trans (Fut.fut _ _ _)⟩
  · have hs' : smallB o a d s.size = false := by simpa using hs
    go_enter Try.func3, Try.ntmps3
    go_wp2_with (first | (go_at_call 8; refine (small_any _ _ _ _ _ _).mono ?_; rintro e w1 ⟨rfl, hb1⟩; first | (obtain ⟨dd, oo, rfl⟩ := fut_of (Fut.trans (Fut.fut _ _ _) hb1); clear hb1) | (obtain ⟨dd, oo, rfl⟩ := fut_of hb1; clear hb1)) | (go_at_call 9; refine (awake_any _).mono ?_; rintro e w1 ⟨rfl, hb1⟩; first | (obtain ⟨dd, oo, rfl⟩ := fut_of (Fut.trans (Fut.fut _ _ _) hb1); clear hb1) | (obtain ⟨dd, oo, rfl⟩ := fut_of hb1; clear hb1)))
    go_ret
    exact ⟨rfl, hF.trans (Fut.fut _ _ _)⟩
/-- an offset inside the text goes to one inside the edited text -/
theorem mvO_in {o a d n : Int} {k : Nat} (r : Bool) (ho : 0 ≤ o) (ho1 : o ≤ n) (hn : n ≤ 1000) (ha : 0 ≤ a) (hd : 0 ≤ d) (han : a ≤ n) (hdn : d ≤ n - a) (hk : k ≤ 1000) : 0 ≤ mvO o r a d k ∧ mvO o r a d k ≤ n - d + k := by
  unfold mvO
  have e1 : wrap64 (a + d) = a + d := IntWalk.wrap64_in _ ⟨by omega, by omega⟩
  have e2 : wrap64 ((k : Int) - d) = k - d := IntWalk.wrap64_in _ ⟨by omega, by omega⟩
  have e3 : wrap64 (o + (k - d)) = o + (k - d) := IntWalk.wrap64_in _ ⟨by omega, by omega⟩
  have e4 : wrap64 (a + k) = a + k := IntWalk.wrap64_in _ ⟨by omega, by omega⟩
  rw [e1, e2, e3, e4]
  split
  · omega
  · split
    · omega
    · split <;> omega

set_option maxHeartbeats 1000000 in
theorem law_stays (o : Int) (r : Bool) (a d : Int) (s : ByteArray) (n : Int) (hn0 : 0 ≤ n) (hn1 : n ≤ 255) (w : World) :
    Calls Try.prog 4 #[anc o r, edt a d s, .int .u8 n] w fun e w' => e = .returned (.bool true) ∧ Below w.heap.size w w' := by
  obtain ⟨k0, k1, k2, k3, k4⟩ := box2_k w o r a d s
  have hF := box2_fut w o r a d s
  have hm0 : 0 ≤ n % 101 := by omega
  have hm1 : n % 101 ≤ 100 := by omega
  by_cases hf : fitsB a d (n % 101) = true
  · by_cases hs : smallB o a d s.size = true
    · by_cases ho : n % 101 < o
      · go_enter Try.func4, Try.ntmps4
        go_wp2_with (first | (go_at_call 12; refine (fits_any _ _ _ _ _).mono ?_; rintro e w1 ⟨rfl, hb1⟩; first | (obtain ⟨dd, oo, rfl⟩ := fut_of (Fut.trans (Fut.fut _ _ _) hb1); clear hb1) | (obtain ⟨dd, oo, rfl⟩ := fut_of hb1; clear hb1)) | (go_at_call 8; refine (small_any _ _ _ _ _ _).mono ?_; rintro e w1 ⟨rfl, hb1⟩; first | (obtain ⟨dd, oo, rfl⟩ := fut_of (Fut.trans (Fut.fut _ _ _) hb1); clear hb1) | (obtain ⟨dd, oo, rfl⟩ := fut_of hb1; clear hb1)) | (go_at_call 9; refine (awake_any _).mono ?_; rintro e w1 ⟨rfl, hb1⟩; first | (obtain ⟨dd, oo, rfl⟩ := fut_of (Fut.trans (Fut.fut _ _ _) hb1); clear hb1) | (obtain ⟨dd, oo, rfl⟩ := fut_of hb1; clear hb1)))
        go_ret
        exact ⟨rfl, hF.trans (Fut.fut _ _ _)⟩
      · obtain ⟨b1, b2, b3, b4, b5, b6, b7⟩ := smallB_spec hs
        obtain ⟨c1, c2, c3, c4⟩ := fitsB_spec hf (by omega)
        have ho' : o ≤ n % 101 := by omega
        obtain ⟨g1, g2⟩ := mvO_in (k := s.size) r b1 ho' (by omega) c1 c2 c3 c4 b7
        go_enter Try.func4, Try.ntmps4
        go_wp2_with (first | (go_at_call 12; refine (fits_any _ _ _ _ _).mono ?_; rintro e w1 ⟨rfl, hb1⟩; first | (obtain ⟨dd, oo, rfl⟩ := fut_of (Fut.trans (Fut.fut _ _ _) hb1); clear hb1) | (obtain ⟨dd, oo, rfl⟩ := fut_of hb1; clear hb1)) | (go_at_call 8; refine (small_any _ _ _ _ _ _).mono ?_; rintro e w1 ⟨rfl, hb1⟩; first | (obtain ⟨dd, oo, rfl⟩ := fut_of (Fut.trans (Fut.fut _ _ _) hb1); clear hb1) | (obtain ⟨dd, oo, rfl⟩ := fut_of hb1; clear hb1))  | (go_at_call 10; refine (move_any _ _ _ _ _ _).mono ?_; rintro e w1 ⟨rfl, hb1⟩; first | (obtain ⟨dd, oo, rfl⟩ := fut_of (Fut.trans (Fut.fut _ _ _) hb1); clear hb1) | (obtain ⟨dd, oo, rfl⟩ := fut_of hb1; clear hb1)))
        have hz := (Fut.fut (box2 w o r a d s) dd oo).size
        simp only [World.size_alloc] at hz
        have q0 := k0 dd oo
        have q1 := k1 dd oo
        have q2 := k2 dd oo
        have q3 := k3 dd oo
        have q4 := k4 dd oo
        have hF2 : Fut w ((fut (box2 w o r a d s) dd oo).alloc (.cells #[.int .i64 (mvO o r a d s.size), .bool r] 23)) := (hF.trans (Fut.fut _ _ _)).alloc _
        generalize hwf : fut (box2 w o r a d s) dd oo = wf at *
        have j0 : ∀ dd os, (fut (wf.alloc (.cells #[.int .i64 (mvO o r a d s.size), .bool r] 23)) dd os).cell? ⟨w.heap.size, 0, none⟩ = some (.int .i64 o) := cell_fut (by (first | (with_reducible assumption) | ((try simp (disch := first | (simp only [World.size_alloc, World.size_drew, World.size_setCell]; done) | (simp only [World.size_alloc, World.size_drew, World.size_setCell]; omega) | omega) only [cell_al_new, cell_al_old, cell_dr]); first | (with_reducible assumption) | rfl | (simp; done))))
        have j1 : ∀ dd os, (fut (wf.alloc (.cells #[.int .i64 (mvO o r a d s.size), .bool r] 23)) dd os).cell? ⟨w.heap.size, 1, none⟩ = some (.bool r) := cell_fut (by (first | (with_reducible assumption) | ((try simp (disch := first | (simp only [World.size_alloc, World.size_drew, World.size_setCell]; done) | (simp only [World.size_alloc, World.size_drew, World.size_setCell]; omega) | omega) only [cell_al_new, cell_al_old, cell_dr]); first | (with_reducible assumption) | rfl | (simp; done))))
        have j3 : ∀ dd os, (fut (wf.alloc (.cells #[.int .i64 (mvO o r a d s.size), .bool r] 23)) dd os).cell? ⟨w.heap.size + 1, 1, none⟩ = some (.int .i64 d) := cell_fut (by (first | (with_reducible assumption) | ((try simp (disch := first | (simp only [World.size_alloc, World.size_drew, World.size_setCell]; done) | (simp only [World.size_alloc, World.size_drew, World.size_setCell]; omega) | omega) only [cell_al_new, cell_al_old, cell_dr]); first | (with_reducible assumption) | rfl | (simp; done))))
        have j4 : ∀ dd os, (fut (wf.alloc (.cells #[.int .i64 (mvO o r a d s.size), .bool r] 23)) dd os).cell? ⟨w.heap.size + 1, 2, none⟩ = some (.string s) := cell_fut (by (first | (with_reducible assumption) | ((try simp (disch := first | (simp only [World.size_alloc, World.size_drew, World.size_setCell]; done) | (simp only [World.size_alloc, World.size_drew, World.size_setCell]; omega) | omega) only [cell_al_new, cell_al_old, cell_dr]); first | (with_reducible assumption) | rfl | (simp; done))))
        have j5 : ∀ dd os, (fut (wf.alloc (.cells #[.int .i64 (mvO o r a d s.size), .bool r] 23)) dd os).cell? ⟨wf.heap.size, 0, none⟩ = some (.int .i64 (mvO o r a d s.size)) := cell_fut (by (first | (with_reducible assumption) | ((try simp (disch := first | (simp only [World.size_alloc, World.size_drew, World.size_setCell]; done) | (simp only [World.size_alloc, World.size_drew, World.size_setCell]; omega) | omega) only [cell_al_new, cell_al_old, cell_dr]); first | (with_reducible assumption) | rfl | (simp; done))))
        have j6 : ∀ dd os, (fut (wf.alloc (.cells #[.int .i64 (mvO o r a d s.size), .bool r] 23)) dd os).cell? ⟨wf.heap.size, 1, none⟩ = some (.bool r) := cell_fut (by (first | (with_reducible assumption) | ((try simp (disch := first | (simp only [World.size_alloc, World.size_drew, World.size_setCell]; done) | (simp only [World.size_alloc, World.size_drew, World.size_setCell]; omega) | omega) only [cell_al_new, cell_al_old, cell_dr]); first | (with_reducible assumption) | rfl | (simp; done))))
        clear k0 k1 k2 k3 k4 q0 q1 q2 q3 q4 hF hwf hz
        go_wp2_with (go_at_call 9; refine (awake_any _).mono ?_; rintro e w1 ⟨rfl, hb1⟩; first | (obtain ⟨dd, oo, rfl⟩ := fut_of (Fut.trans (Fut.fut _ _ _) hb1); clear hb1) | (obtain ⟨dd, oo, rfl⟩ := fut_of hb1; clear hb1))
        go_ret
        exact ⟨rfl, hF2.trans (Fut.fut _ _ _)⟩
    · have hs' : smallB o a d s.size = false := by simpa using hs
      go_enter Try.func4, Try.ntmps4
      go_wp2_with (first | (go_at_call 12; refine (fits_any _ _ _ _ _).mono ?_; rintro e w1 ⟨rfl, hb1⟩; first | (obtain ⟨dd, oo, rfl⟩ := fut_of (Fut.trans (Fut.fut _ _ _) hb1); clear hb1) | (obtain ⟨dd, oo, rfl⟩ := fut_of hb1; clear hb1)) | (go_at_call 8; refine (small_any _ _ _ _ _ _).mono ?_; rintro e w1 ⟨rfl, hb1⟩; first | (obtain ⟨dd, oo, rfl⟩ := fut_of (Fut.trans (Fut.fut _ _ _) hb1); clear hb1) | (obtain ⟨dd, oo, rfl⟩ := fut_of hb1; clear hb1)) | (go_at_call 9; refine (awake_any _).mono ?_; rintro e w1 ⟨rfl, hb1⟩; first | (obtain ⟨dd, oo, rfl⟩ := fut_of (Fut.trans (Fut.fut _ _ _) hb1); clear hb1) | (obtain ⟨dd, oo, rfl⟩ := fut_of hb1; clear hb1)))
      go_ret
      exact ⟨rfl, hF.trans (Fut.fut _ _ _)⟩
  · have hf' : fitsB a d (n % 101) = false := by simpa using hf
    go_enter Try.func4, Try.ntmps4
    go_wp2_with (first | (go_at_call 12; refine (fits_any _ _ _ _ _).mono ?_; rintro e w1 ⟨rfl, hb1⟩; first | (obtain ⟨dd, oo, rfl⟩ := fut_of (Fut.trans (Fut.fut _ _ _) hb1); clear hb1) | (obtain ⟨dd, oo, rfl⟩ := fut_of hb1; clear hb1)) | (go_at_call 9; refine (awake_any _).mono ?_; rintro e w1 ⟨rfl, hb1⟩; first | (obtain ⟨dd, oo, rfl⟩ := fut_of (Fut.trans (Fut.fut _ _ _) hb1); clear hb1) | (obtain ⟨dd, oo, rfl⟩ := fut_of hb1; clear hb1)))
    go_ret
    exact ⟨rfl, hF.trans (Fut.fut _ _ _)⟩
/-- anchors keep their order -/
theorem mvO_mono {o o2 a d : Int} {k : Nat} {r r2 : Bool} (ho : 0 ≤ o) (ho1 : o ≤ 1000) (hp : 0 ≤ o2) (hp1 : o2 ≤ 1000) (ha : 0 ≤ a) (ha1 : a ≤ 1000) (hd : 0 ≤ d) (hd1 : d ≤ 1000) (hk : k ≤ 1000) (h : o ≤ o2) (hr : r = true → r2 = true) : mvO o r a d k ≤ mvO o2 r2 a d k := by
  unfold mvO
  have e1 : wrap64 (a + d) = a + d := IntWalk.wrap64_in _ ⟨by omega, by omega⟩
  have e2 : wrap64 ((k : Int) - d) = k - d := IntWalk.wrap64_in _ ⟨by omega, by omega⟩
  have e3 : wrap64 (o + (k - d)) = o + (k - d) := IntWalk.wrap64_in _ ⟨by omega, by omega⟩
  have e4 : wrap64 (a + k) = a + k := IntWalk.wrap64_in _ ⟨by omega, by omega⟩
  have e5 : wrap64 (o2 + (k - d)) = o2 + (k - d) := IntWalk.wrap64_in _ ⟨by omega, by omega⟩
  rw [e1, e2, e3, e4, e5]
  cases r <;> cases r2 <;> simp_all <;> (repeat' split) <;> omega
/-- three boxes behind w -/
abbrev box3 (w : World) (o : Int) (r : Bool) (o2 : Int) (r2 : Bool) (a d : Int) (s : ByteArray) : World := ((w.alloc (.cells #[.int .i64 o, .bool r] 23)).alloc (.cells #[.int .i64 o2, .bool r2] 23)).alloc (.cells #[.int .i64 a, .int .i64 d, .string s] 25)
set_option maxHeartbeats 1000000 in
theorem law_order (o : Int) (r : Bool) (o2 : Int) (r2 : Bool) (a d : Int) (s : ByteArray) (w : World) :
    Calls Try.prog 6 #[anc o r, anc o2 r2, edt a d s] w fun e w' => e = .returned (.bool true) ∧ Below w.heap.size w w' := by
  have k0 : ∀ dd os, (fut (box3 w o r o2 r2 a d s) dd os).cell? ⟨w.heap.size, 0, none⟩ = some (.int .i64 o) := cell_fut (by (first | (with_reducible assumption) | ((try simp (disch := first | (simp only [World.size_alloc, World.size_drew, World.size_setCell]; done) | (simp only [World.size_alloc, World.size_drew, World.size_setCell]; omega) | omega) only [cell_al_new, cell_al_old, cell_dr]); first | (with_reducible assumption) | rfl | (simp; done))))
  have k1 : ∀ dd os, (fut (box3 w o r o2 r2 a d s) dd os).cell? ⟨w.heap.size, 1, none⟩ = some (.bool r) := cell_fut (by (first | (with_reducible assumption) | ((try simp (disch := first | (simp only [World.size_alloc, World.size_drew, World.size_setCell]; done) | (simp only [World.size_alloc, World.size_drew, World.size_setCell]; omega) | omega) only [cell_al_new, cell_al_old, cell_dr]); first | (with_reducible assumption) | rfl | (simp; done))))
  have k2 : ∀ dd os, (fut (box3 w o r o2 r2 a d s) dd os).cell? ⟨w.heap.size + 1, 0, none⟩ = some (.int .i64 o2) := cell_fut (by (first | (with_reducible assumption) | ((try simp (disch := first | (simp only [World.size_alloc, World.size_drew, World.size_setCell]; done) | (simp only [World.size_alloc, World.size_drew, World.size_setCell]; omega) | omega) only [cell_al_new, cell_al_old, cell_dr]); first | (with_reducible assumption) | rfl | (simp; done))))
  have k3 : ∀ dd os, (fut (box3 w o r o2 r2 a d s) dd os).cell? ⟨w.heap.size + 1, 1, none⟩ = some (.bool r2) := cell_fut (by (first | (with_reducible assumption) | ((try simp (disch := first | (simp only [World.size_alloc, World.size_drew, World.size_setCell]; done) | (simp only [World.size_alloc, World.size_drew, World.size_setCell]; omega) | omega) only [cell_al_new, cell_al_old, cell_dr]); first | (with_reducible assumption) | rfl | (simp; done))))
  have k4 : ∀ dd os, (fut (box3 w o r o2 r2 a d s) dd os).cell? ⟨w.heap.size + 1 + 1, 0, none⟩ = some (.int .i64 a) := cell_fut (by (first | (with_reducible assumption) | ((try simp (disch := first | (simp only [World.size_alloc, World.size_drew, World.size_setCell]; done) | (simp only [World.size_alloc, World.size_drew, World.size_setCell]; omega) | omega) only [cell_al_new, cell_al_old, cell_dr]); first | (with_reducible assumption) | rfl | (simp; done))))
  have k5 : ∀ dd os, (fut (box3 w o r o2 r2 a d s) dd os).cell? ⟨w.heap.size + 1 + 1, 1, none⟩ = some (.int .i64 d) := cell_fut (by (first | (with_reducible assumption) | ((try simp (disch := first | (simp only [World.size_alloc, World.size_drew, World.size_setCell]; done) | (simp only [World.size_alloc, World.size_drew, World.size_setCell]; omega) | omega) only [cell_al_new, cell_al_old, cell_dr]); first | (with_reducible assumption) | rfl | (simp; done))))
  have k6 : ∀ dd os, (fut (box3 w o r o2 r2 a d s) dd os).cell? ⟨w.heap.size + 1 + 1, 2, none⟩ = some (.string s) := cell_fut (by (first | (with_reducible assumption) | ((try simp (disch := first | (simp only [World.size_alloc, World.size_drew, World.size_setCell]; done) | (simp only [World.size_alloc, World.size_drew, World.size_setCell]; omega) | omega) only [cell_al_new, cell_al_old, cell_dr]); first | (with_reducible assumption) | rfl | (simp; done))))
  have hF : Fut w (box3 w o r o2 r2 a d s) := (((Fut.refl w).alloc _).alloc _).alloc _
  by_cases hs : smallB o a d s.size = true
  · by_cases hs2 : smallB o2 a d s.size = true
    · obtain ⟨b1, b2, b3, b4, b5, b6, b7⟩ := smallB_spec hs
      obtain ⟨c1, c2, _, _, _, _, _⟩ := smallB_spec hs2
      by_cases ho : o2 < o
      · go_enter Try.func6, Try.ntmps6
        go_wp2_with (first | (go_at_call 8; refine (small_any _ _ _ _ _ _).mono ?_; rintro e w1 ⟨rfl, hb1⟩; first | (obtain ⟨dd, oo, rfl⟩ := fut_of (Fut.trans (Fut.fut _ _ _) hb1); clear hb1) | (obtain ⟨dd, oo, rfl⟩ := fut_of hb1; clear hb1)) | (go_at_call 9; refine (awake_any _).mono ?_; rintro e w1 ⟨rfl, hb1⟩; first | (obtain ⟨dd, oo, rfl⟩ := fut_of (Fut.trans (Fut.fut _ _ _) hb1); clear hb1) | (obtain ⟨dd, oo, rfl⟩ := fut_of hb1; clear hb1)))
        go_ret
        exact ⟨rfl, hF.trans (Fut.fut _ _ _)⟩
      · have ho' : o ≤ o2 := by omega
        by_cases hr : r = true ∧ r2 = false
        · obtain ⟨rfl, rfl⟩ := hr
          go_enter Try.func6, Try.ntmps6
          go_wp2_with (first | (go_at_call 8; refine (small_any _ _ _ _ _ _).mono ?_; rintro e w1 ⟨rfl, hb1⟩; first | (obtain ⟨dd, oo, rfl⟩ := fut_of (Fut.trans (Fut.fut _ _ _) hb1); clear hb1) | (obtain ⟨dd, oo, rfl⟩ := fut_of hb1; clear hb1)) | (go_at_call 9; refine (awake_any _).mono ?_; rintro e w1 ⟨rfl, hb1⟩; first | (obtain ⟨dd, oo, rfl⟩ := fut_of (Fut.trans (Fut.fut _ _ _) hb1); clear hb1) | (obtain ⟨dd, oo, rfl⟩ := fut_of hb1; clear hb1)))
          go_ret
          exact ⟨rfl, hF.trans (Fut.fut _ _ _)⟩
        · have hr' : r = true → r2 = true := by cases r <;> cases r2 <;> simp_all
          have hm := mvO_mono b1 b2 c1 c2 b3 b4 b5 b6 b7 ho' hr'
          clear hr'
          cases r <;> cases r2
          case true.false => exact absurd ⟨rfl, rfl⟩ hr
          all_goals
            clear hr
            go_enter Try.func6, Try.ntmps6
            go_wp2_with (first | (go_at_call 8; refine (small_any _ _ _ _ _ _).mono ?_; rintro e w1 ⟨rfl, hb1⟩; first | (obtain ⟨dd, oo, rfl⟩ := fut_of (Fut.trans (Fut.fut _ _ _) hb1); clear hb1) | (obtain ⟨dd, oo, rfl⟩ := fut_of hb1; clear hb1)))
            refine wp_region_F o_emendatelaw02_AnchorOrder_3 (by kernel_rfl) (by kernel_rfl) (by intro c a d v w h; cases d <;> exact h) ?_; unfold o_emendatelaw02_AnchorOrder_3
            repeat (first
              | (refine wpF_h rfl rfl (fun K hK => ?_); go_simp; refine hK _ _ ?_; clear hK K)
              | (refine wpF_o rfl rfl (fun K hK => ?_); go_simp; first | (go_at_call 9; refine (awake_any _).mono ?_; rintro e w1 ⟨rfl, hb1⟩; obtain ⟨dd, oo, rfl⟩ := fut_of (Fut.trans (Fut.fut _ _ _) hb1); refine hK _ _ (.inr hb1) ?_; clear hK K hb1) | (go_at_call 10; refine (move_any _ _ _ _ _ _).mono ?_; rintro e w1 ⟨rfl, hb1⟩; obtain ⟨dd, oo, rfl⟩ := fut_of (Fut.trans (Fut.fut _ _ _) hb1); refine hK _ _ (.inr hb1) ?_; clear hK K hb1)))
            refine wpF_nil ?_
            go_wp2_with fail
            go_ret
            exact ⟨rfl, hF.trans (Fut.fut _ _ _)⟩
    · have hs' : smallB o2 a d s.size = false := by simpa using hs2
      go_enter Try.func6, Try.ntmps6
      go_wp2_with (first | (go_at_call 8; refine (small_any _ _ _ _ _ _).mono ?_; rintro e w1 ⟨rfl, hb1⟩; first | (obtain ⟨dd, oo, rfl⟩ := fut_of (Fut.trans (Fut.fut _ _ _) hb1); clear hb1) | (obtain ⟨dd, oo, rfl⟩ := fut_of hb1; clear hb1)) | (go_at_call 9; refine (awake_any _).mono ?_; rintro e w1 ⟨rfl, hb1⟩; first | (obtain ⟨dd, oo, rfl⟩ := fut_of (Fut.trans (Fut.fut _ _ _) hb1); clear hb1) | (obtain ⟨dd, oo, rfl⟩ := fut_of hb1; clear hb1)))
      go_ret
      exact ⟨rfl, hF.trans (Fut.fut _ _ _)⟩
  · have hs' : smallB o a d s.size = false := by simpa using hs
    go_enter Try.func6, Try.ntmps6
    go_wp2_with (first | (go_at_call 8; refine (small_any _ _ _ _ _ _).mono ?_; rintro e w1 ⟨rfl, hb1⟩; first | (obtain ⟨dd, oo, rfl⟩ := fut_of (Fut.trans (Fut.fut _ _ _) hb1); clear hb1) | (obtain ⟨dd, oo, rfl⟩ := fut_of hb1; clear hb1)) | (go_at_call 9; refine (awake_any _).mono ?_; rintro e w1 ⟨rfl, hb1⟩; first | (obtain ⟨dd, oo, rfl⟩ := fut_of (Fut.trans (Fut.fut _ _ _) hb1); clear hb1) | (obtain ⟨dd, oo, rfl⟩ := fut_of hb1; clear hb1)))
    go_ret
    exact ⟨rfl, hF.trans (Fut.fut _ _ _)⟩
end Go.Proofs.Ytgofpppogoabaaa
