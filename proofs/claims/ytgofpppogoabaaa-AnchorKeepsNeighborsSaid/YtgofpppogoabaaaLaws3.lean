/-
  The law of neighbours, walked.
-/
import Derived.Test.YtgofpppogoabaaaLaws
import Derived.Test.YtgofpppogoabaaaFast
import Derived.Deep.RegionHeld
import Derived.Lib.SmallJoins
import Derived.Lib.Strings
namespace Go.Proofs.Ytgofpppogoabaaa
open Go.RowKit
attribute [local go_sem] Oper.lit fut_fut fut_drew World.cell?_alloc_some
theorem fut_base_drew (b : World) (d : Nat) (os : Array Obj) : fut b.drew d os = fut b d os := rfl
attribute [local go_sem] fut_base_drew
theorem wpF_hs2 {P : Program} {ops : Array Oper} {Q : Exit → Act → World → Prop} {b : World} {i : Nat} {o : Oper} {r : Sched} {a : Act} {w : World} (ho : ops[i]? = some o) (hw : Region.wanted o (yielded ops a.tmps) = false)
    (h : ∀ K : Act → World → Prop, (∀ a w, wpF P ops Q r b a w → K a w) → K (a.put o.dst undef) w) : wpF P ops Q (.hoist i r) b a w :=
  wpF_hs ho hw (h _ (fun _ _ h => h))
theorem ba_ext {a b : ByteArray} (h : a.data.toList = b.data.toList) : a = b := by
  cases a with | mk x => cases b with | mk y => cases x with | mk u => cases y with | mk v => simp at h; rw [h]
theorem ba_len (t : ByteArray) : t.data.toList.length = t.size := by rw [Array.length_toList]; rfl
theorem cut_front (t s : ByteArray) (a d n : Nat) (ha : a ≤ t.size) (hn : n ≤ a) : (t.extract 0 a ++ s ++ t.extract (a + d) t.size).extract 0 n = t.extract 0 n := by
  apply ba_ext
  have hs := ba_len t
  rw [Lib.extract_data, Lib.extract_data, Joins.data_append, Joins.data_append, Lib.extract_data, Lib.extract_data, List.append_assoc]
  simp only [List.drop_zero, Nat.sub_zero]
  rw [List.take_append_of_le_length (by rw [List.length_take]; omega), List.take_take, Nat.min_eq_left hn]
theorem cut_back (t s : ByteArray) (a d o m : Nat) (had : a + d ≤ t.size) (ho : a + d < o) (ho1 : o ≤ t.size) (hm : m = o + s.size - d) :
    (t.extract 0 a ++ s ++ t.extract (a + d) t.size).extract m (a + s.size + (t.size - (a + d))) = t.extract o t.size := by
  apply ba_ext
  have hs := ba_len t
  have hs2 := ba_len s
  rw [Lib.extract_data, Lib.extract_data, Joins.data_append, Joins.data_append, Lib.extract_data, Lib.extract_data, List.append_assoc]
  simp only [List.drop_zero, Nat.sub_zero]
  generalize t.data.toList = T at *
  generalize s.data.toList = S at *
  rw [List.take_of_length_le (l := T.drop (a + d)) (by rw [List.length_drop]; omega), List.take_of_length_le (l := T.drop o) (by rw [List.length_drop]; omega)]
  have hlen : (T.take a ++ S).length = a + s.size := by rw [List.length_append, List.length_take]; omega
  rw [← List.append_assoc, List.drop_append, List.drop_eq_nil_of_le (by omega), List.nil_append, List.drop_drop, hlen, List.take_of_length_le (by rw [List.length_drop]; omega)]
  congr 1
  omega
theorem wrap_add (a d : Nat) (ha : a ≤ 1000) (hd : d ≤ 1000) : IntKind.i64.wrap ((a : Int) + (d : Int)) = (a : Int) + (d : Int) := by
  rw [IntWalk.i64_left]; exact IntWalk.wrap64_in _ ⟨by omega, by omega⟩
theorem mvO_front {o a d : Int} {k : Nat} (r : Bool) (h : o < a) : mvO o r a d k = o := by unfold mvO; rw [if_pos h]
theorem mvO_back {o a d k : Nat} (r : Bool) (ho1 : o ≤ 1000) (ha1 : a ≤ 1000) (hd1 : d ≤ 1000) (hk : k ≤ 1000) (h : a + d < o) : mvO o r a d k = ((o + k - d : Nat) : Int) := by
  have e1 : wrap64 ((a : Int) + d) = a + d := IntWalk.wrap64_in _ ⟨by omega, by omega⟩
  have e2 : wrap64 ((k : Int) - d) = k - d := IntWalk.wrap64_in _ ⟨by omega, by omega⟩
  have e3 : wrap64 ((o : Int) + (k - d)) = o + (k - d) := IntWalk.wrap64_in _ ⟨by omega, by omega⟩
  unfold mvO
  rw [if_neg (by omega), e1, if_pos (by omega), e2, e3]
  omega
set_option maxHeartbeats 4000000 in
theorem law_keeps (o : Int) (r : Bool) (a d : Int) (s t : ByteArray) (w : World) :
    Calls Try.prog 5 #[.string t, anc o r, edt a d s] w fun e w' => e = .returned (.bool true) ∧ Below w.heap.size w w' := by
  obtain ⟨k0, k1, k2, k3, k4⟩ := box2_k w o r a d s
  have hF := box2_fut w o r a d s
  by_cases hl : t.size ≤ 100
  · by_cases hf : fitsB a d t.size = true
    · by_cases hs : smallB o a d s.size = true
      · by_cases ho : (t.size : Int) < o
        · go_enter Try.func5, Try.ntmps5
          go_wp2_with (first | (go_at_call 12; refine (fits_any _ _ _ _ _).mono ?_; rintro e w1 ⟨rfl, hb1⟩; first | (obtain ⟨dd, oo, rfl⟩ := fut_of (Fut.trans (Fut.fut _ _ _) hb1); clear hb1) | (obtain ⟨dd, oo, rfl⟩ := fut_of hb1; clear hb1)) | (go_at_call 8; refine (small_any _ _ _ _ _ _).mono ?_; rintro e w1 ⟨rfl, hb1⟩; first | (obtain ⟨dd, oo, rfl⟩ := fut_of (Fut.trans (Fut.fut _ _ _) hb1); clear hb1) | (obtain ⟨dd, oo, rfl⟩ := fut_of hb1; clear hb1)) | (go_at_call 9; refine (awake_any _).mono ?_; rintro e w1 ⟨rfl, hb1⟩; first | (obtain ⟨dd, oo, rfl⟩ := fut_of (Fut.trans (Fut.fut _ _ _) hb1); clear hb1) | (obtain ⟨dd, oo, rfl⟩ := fut_of hb1; clear hb1)))
          go_ret
          exact ⟨rfl, hF.trans (Fut.fut _ _ _)⟩
        · obtain ⟨b1, b2, b3, b4, b5, b6, b7⟩ := smallB_spec hs
          obtain ⟨c1, c2, c3, c4⟩ := fitsB_spec hf (by omega)
          have ho' : o ≤ (t.size : Int) := by omega
          obtain ⟨g1, g2⟩ := mvO_in (k := s.size) r b1 ho' (by omega) c1 c2 c3 c4 b7
          obtain ⟨at_, rfl⟩ := Int.eq_ofNat_of_zero_le c1
          obtain ⟨del, rfl⟩ := Int.eq_ofNat_of_zero_le c2
          obtain ⟨off, rfl⟩ := Int.eq_ofNat_of_zero_le b1
          have n1 : (9223372036854775807 < at_ + s.size) = False := by simp; omega
          have n2 : (9223372036854775807 < at_ + s.size + (t.size - (at_ + del))) = False := by simp; omega
          have n4 : (0 ≤ (at_ : Int) + (del : Int)) = True := eq_true (by omega)
          have n5 : ((at_ : Int) + (del : Int) ≤ (t.size : Int)) = True := eq_true (by omega)
          have n6 : ((at_ : Int) + (del : Int)).toNat = at_ + del := by omega
          have n7 := wrap_add at_ del (by omega) (by omega)
          have n3 : min at_ t.size = at_ := by omega
          have hways : off < at_ ∨ at_ + del < off ∨ (at_ ≤ off ∧ off ≤ at_ + del) := by omega
          have g3 : mvO off r at_ del s.size ≤ (at_ + s.size + (t.size - (at_ + del)) : Nat) := by omega
          go_enter Try.func5, Try.ntmps5
          go_wp2_with (first | (go_at_call 12; refine (fits_any _ _ _ _ _).mono ?_; rintro e w1 ⟨rfl, hb1⟩; first | (obtain ⟨dd, oo, rfl⟩ := fut_of (Fut.trans (Fut.fut _ _ _) hb1); clear hb1) | (obtain ⟨dd, oo, rfl⟩ := fut_of hb1; clear hb1)) | (go_at_call 8; refine (small_any _ _ _ _ _ _).mono ?_; rintro e w1 ⟨rfl, hb1⟩; first | (obtain ⟨dd, oo, rfl⟩ := fut_of (Fut.trans (Fut.fut _ _ _) hb1); clear hb1) | (obtain ⟨dd, oo, rfl⟩ := fut_of hb1; clear hb1)))
          refine wp_region_M o_emendatelaw02_AnchorKeepsNeighbors_3 (by kernel_rfl) (by kernel_rfl) (by intro c a d v w h; cases d <;> exact h) ?_; unfold o_emendatelaw02_AnchorKeepsNeighbors_3
          repeat (first | (refine wpF_h rfl rfl (fun K hK => ?_); go_simp; refine hK _ _ ?_; clear hK K) | refine wpF_hs rfl rfl ?_)
          refine wpF_nil ?_
          go_wp2_with (go_at_call 10; refine (move_any _ _ _ _ _ _).mono ?_; rintro e w1 ⟨rfl, hb1⟩; first | (obtain ⟨dd, oo, rfl⟩ := fut_of (Fut.trans (Fut.fut _ _ _) hb1); clear hb1) | (obtain ⟨dd, oo, rfl⟩ := fut_of hb1; clear hb1))
          have hz := (Fut.fut (box2 w off r at_ del s) dd oo).size
          simp only [World.size_alloc] at hz
          have q0 := k0 dd oo
          have q1 := k1 dd oo
          have q2 := k2 dd oo
          have q3 := k3 dd oo
          have q4 := k4 dd oo
          have hF2 : Fut w ((fut (box2 w off r at_ del s) dd oo).alloc (.cells #[.int .i64 (mvO off r at_ del s.size), .bool r] 23)) := (hF.trans (Fut.fut _ _ _)).alloc _
          generalize hwf : fut (box2 w off r at_ del s) dd oo = wf at *
          have j0 : ∀ dd os, (fut (wf.alloc (.cells #[.int .i64 (mvO off r at_ del s.size), .bool r] 23)) dd os).cell? ⟨w.heap.size, 0, none⟩ = some (.int .i64 off) := cell_fut (by (first | (with_reducible assumption) | ((try simp (disch := first | (simp only [World.size_alloc, World.size_drew, World.size_setCell]; done) | (simp only [World.size_alloc, World.size_drew, World.size_setCell]; omega) | omega) only [cell_al_new, cell_al_old, cell_dr]); first | (with_reducible assumption) | rfl | (simp; done))))
          have j1 : ∀ dd os, (fut (wf.alloc (.cells #[.int .i64 (mvO off r at_ del s.size), .bool r] 23)) dd os).cell? ⟨w.heap.size, 1, none⟩ = some (.bool r) := cell_fut (by (first | (with_reducible assumption) | ((try simp (disch := first | (simp only [World.size_alloc, World.size_drew, World.size_setCell]; done) | (simp only [World.size_alloc, World.size_drew, World.size_setCell]; omega) | omega) only [cell_al_new, cell_al_old, cell_dr]); first | (with_reducible assumption) | rfl | (simp; done))))
          have j2 : ∀ dd os, (fut (wf.alloc (.cells #[.int .i64 (mvO off r at_ del s.size), .bool r] 23)) dd os).cell? ⟨w.heap.size + 1, 0, none⟩ = some (.int .i64 at_) := cell_fut (by (first | (with_reducible assumption) | ((try simp (disch := first | (simp only [World.size_alloc, World.size_drew, World.size_setCell]; done) | (simp only [World.size_alloc, World.size_drew, World.size_setCell]; omega) | omega) only [cell_al_new, cell_al_old, cell_dr]); first | (with_reducible assumption) | rfl | (simp; done))))
          have j3 : ∀ dd os, (fut (wf.alloc (.cells #[.int .i64 (mvO off r at_ del s.size), .bool r] 23)) dd os).cell? ⟨w.heap.size + 1, 1, none⟩ = some (.int .i64 del) := cell_fut (by (first | (with_reducible assumption) | ((try simp (disch := first | (simp only [World.size_alloc, World.size_drew, World.size_setCell]; done) | (simp only [World.size_alloc, World.size_drew, World.size_setCell]; omega) | omega) only [cell_al_new, cell_al_old, cell_dr]); first | (with_reducible assumption) | rfl | (simp; done))))
          have j4 : ∀ dd os, (fut (wf.alloc (.cells #[.int .i64 (mvO off r at_ del s.size), .bool r] 23)) dd os).cell? ⟨w.heap.size + 1, 2, none⟩ = some (.string s) := cell_fut (by (first | (with_reducible assumption) | ((try simp (disch := first | (simp only [World.size_alloc, World.size_drew, World.size_setCell]; done) | (simp only [World.size_alloc, World.size_drew, World.size_setCell]; omega) | omega) only [cell_al_new, cell_al_old, cell_dr]); first | (with_reducible assumption) | rfl | (simp; done))))
          have j5 : ∀ dd os, (fut (wf.alloc (.cells #[.int .i64 (mvO off r at_ del s.size), .bool r] 23)) dd os).cell? ⟨wf.heap.size, 0, none⟩ = some (.int .i64 (mvO off r at_ del s.size)) := cell_fut (by (first | (with_reducible assumption) | ((try simp (disch := first | (simp only [World.size_alloc, World.size_drew, World.size_setCell]; done) | (simp only [World.size_alloc, World.size_drew, World.size_setCell]; omega) | omega) only [cell_al_new, cell_al_old, cell_dr]); first | (with_reducible assumption) | rfl | (simp; done))))
          have j6 : ∀ dd os, (fut (wf.alloc (.cells #[.int .i64 (mvO off r at_ del s.size), .bool r] 23)) dd os).cell? ⟨wf.heap.size, 1, none⟩ = some (.bool r) := cell_fut (by (first | (with_reducible assumption) | ((try simp (disch := first | (simp only [World.size_alloc, World.size_drew, World.size_setCell]; done) | (simp only [World.size_alloc, World.size_drew, World.size_setCell]; omega) | omega) only [cell_al_new, cell_al_old, cell_dr]); first | (with_reducible assumption) | rfl | (simp; done))))
          clear k0 k1 k2 k3 k4 q0 q1 q2 q3 q4 hF hwf hz
          rcases hways with h | h | h
          · rw [mvO_front r (by omega)] at *
            have p1 : ((off : Int) < (at_ : Int)) = True := eq_true (by omega)
            have p2 : ((at_ : Int) + (del : Int) < (off : Int)) = False := eq_false (by omega)
            have p3 : (at_ + del < off) = False := eq_false (by omega)
            have hcut := cut_front t s at_ del off (by omega) (by omega)
            refine wp_region_M o_emendatelaw02_AnchorKeepsNeighbors_7 (by kernel_rfl) (by kernel_rfl) (by intro c a d v w h; cases d <;> exact h) ?_; unfold o_emendatelaw02_AnchorKeepsNeighbors_7
            iterate 6 (refine wpF_h rfl rfl (fun K hK => ?_); go_simp; refine hK _ _ ?_; clear hK K)
            iterate 9 (refine wpF_h rfl rfl (fun K hK => ?_); go_simp; refine hK _ _ ?_; clear hK K)
            (refine wpF_h rfl rfl (fun K hK => ?_); go_simp; refine hK _ _ ?_; clear hK K)
            refine wpF_nil ?_
            go_wp2_with fail
            refine wp_region_M o_emendatelaw02_AnchorKeepsNeighbors_9 (by kernel_rfl) (by kernel_rfl) (by intro c a d v w h; cases d <;> exact h) ?_; unfold o_emendatelaw02_AnchorKeepsNeighbors_9
            iterate 9 (refine wpF_h rfl rfl (fun K hK => ?_); go_simp; refine hK _ _ ?_; clear hK K)
            iterate 9 (refine wpF_hs2 rfl rfl (fun K hK => ?_); go_simp; refine hK _ _ ?_; clear hK K)
            (refine wpF_h rfl rfl (fun K hK => ?_); go_simp; refine hK _ _ ?_; clear hK K)
            refine wpF_nil ?_
            go_wp2_with (go_at_call 9; refine (awake_any _).mono ?_; rintro e w1 ⟨rfl, hb1⟩; first | (obtain ⟨dd, oo, rfl⟩ := fut_of (Fut.trans (Fut.fut _ _ _) hb1); clear hb1) | (obtain ⟨dd, oo, rfl⟩ := fut_of hb1; clear hb1))
            go_ret
            exact ⟨rfl, (hF2.trans (Fut.drew (Fut.drew (Fut.refl _)))).trans (Fut.fut _ _ _)⟩
          · rw [mvO_back r (by omega) (by omega) (by omega) (by omega) h] at *
            generalize hm : off + s.size - del = m at *
            have p1 : ((off : Int) < (at_ : Int)) = False := eq_false (by omega)
            have p2 : ((at_ : Int) + (del : Int) < (off : Int)) = True := eq_true (by omega)
            have p3 : (at_ + del < off) = True := eq_true (by omega)
            have hcut := cut_back t s at_ del off m (by omega) h (by omega) hm.symm
            have HM := Lib.hid hm
            clear hm h
            refine wp_region_M o_emendatelaw02_AnchorKeepsNeighbors_7 (by kernel_rfl) (by kernel_rfl) (by intro c a d v w h; cases d <;> exact h) ?_; unfold o_emendatelaw02_AnchorKeepsNeighbors_7
            iterate 6 (refine wpF_h rfl rfl (fun K hK => ?_); go_simp; refine hK _ _ ?_; clear hK K)
            iterate 9 (refine wpF_hs2 rfl rfl (fun K hK => ?_); go_simp; refine hK _ _ ?_; clear hK K)
            (refine wpF_h rfl rfl (fun K hK => ?_); go_simp; refine hK _ _ ?_; clear hK K)
            refine wpF_nil ?_
            go_wp2_with fail
            refine wp_region_M o_emendatelaw02_AnchorKeepsNeighbors_9 (by kernel_rfl) (by kernel_rfl) (by intro c a d v w h; cases d <;> exact h) ?_; unfold o_emendatelaw02_AnchorKeepsNeighbors_9
            iterate 9 (refine wpF_h rfl rfl (fun K hK => ?_); go_simp; refine hK _ _ ?_; clear hK K)
            iterate 9 (refine wpF_h rfl rfl (fun K hK => ?_); go_simp; refine hK _ _ ?_; clear hK K)
            (refine wpF_h rfl rfl (fun K hK => ?_); go_simp; refine hK _ _ ?_; clear hK K)
            refine wpF_nil ?_
            go_wp2_with (go_at_call 9; refine (awake_any _).mono ?_; rintro e w1 ⟨rfl, hb1⟩; first | (obtain ⟨dd, oo, rfl⟩ := fut_of (Fut.trans (Fut.fut _ _ _) hb1); clear hb1) | (obtain ⟨dd, oo, rfl⟩ := fut_of hb1; clear hb1))
            go_ret
            exact ⟨rfl, (hF2.trans (Fut.drew (Fut.drew (Fut.refl _)))).trans (Fut.fut _ _ _)⟩
          · have p1 : ((off : Int) < (at_ : Int)) = False := eq_false (by omega)
            have p2 : ((at_ : Int) + (del : Int) < (off : Int)) = False := eq_false (by omega)
            have p3 : (at_ + del < off) = False := eq_false (by omega)
            refine wp_region_M o_emendatelaw02_AnchorKeepsNeighbors_7 (by kernel_rfl) (by kernel_rfl) (by intro c a d v w h; cases d <;> exact h) ?_; unfold o_emendatelaw02_AnchorKeepsNeighbors_7
            iterate 6 (refine wpF_h rfl rfl (fun K hK => ?_); go_simp; refine hK _ _ ?_; clear hK K)
            iterate 9 (refine wpF_hs2 rfl rfl (fun K hK => ?_); go_simp; refine hK _ _ ?_; clear hK K)
            (refine wpF_h rfl rfl (fun K hK => ?_); go_simp; refine hK _ _ ?_; clear hK K)
            refine wpF_nil ?_
            go_wp2_with fail
            refine wp_region_M o_emendatelaw02_AnchorKeepsNeighbors_9 (by kernel_rfl) (by kernel_rfl) (by intro c a d v w h; cases d <;> exact h) ?_; unfold o_emendatelaw02_AnchorKeepsNeighbors_9
            iterate 9 (refine wpF_h rfl rfl (fun K hK => ?_); go_simp; refine hK _ _ ?_; clear hK K)
            iterate 9 (refine wpF_hs2 rfl rfl (fun K hK => ?_); go_simp; refine hK _ _ ?_; clear hK K)
            (refine wpF_h rfl rfl (fun K hK => ?_); go_simp; refine hK _ _ ?_; clear hK K)
            refine wpF_nil ?_
            go_wp2_with (go_at_call 9; refine (awake_any _).mono ?_; rintro e w1 ⟨rfl, hb1⟩; first | (obtain ⟨dd, oo, rfl⟩ := fut_of (Fut.trans (Fut.fut _ _ _) hb1); clear hb1) | (obtain ⟨dd, oo, rfl⟩ := fut_of hb1; clear hb1))
            go_ret
            exact ⟨rfl, (hF2.trans (Fut.drew (Fut.drew (Fut.refl _)))).trans (Fut.fut _ _ _)⟩
      · have hs' : smallB o a d s.size = false := by simpa using hs
        go_enter Try.func5, Try.ntmps5
        go_wp2_with (first | (go_at_call 12; refine (fits_any _ _ _ _ _).mono ?_; rintro e w1 ⟨rfl, hb1⟩; first | (obtain ⟨dd, oo, rfl⟩ := fut_of (Fut.trans (Fut.fut _ _ _) hb1); clear hb1) | (obtain ⟨dd, oo, rfl⟩ := fut_of hb1; clear hb1)) | (go_at_call 8; refine (small_any _ _ _ _ _ _).mono ?_; rintro e w1 ⟨rfl, hb1⟩; first | (obtain ⟨dd, oo, rfl⟩ := fut_of (Fut.trans (Fut.fut _ _ _) hb1); clear hb1) | (obtain ⟨dd, oo, rfl⟩ := fut_of hb1; clear hb1)) | (go_at_call 9; refine (awake_any _).mono ?_; rintro e w1 ⟨rfl, hb1⟩; first | (obtain ⟨dd, oo, rfl⟩ := fut_of (Fut.trans (Fut.fut _ _ _) hb1); clear hb1) | (obtain ⟨dd, oo, rfl⟩ := fut_of hb1; clear hb1)))
        go_ret
        exact ⟨rfl, hF.trans (Fut.fut _ _ _)⟩
    · have hf' : fitsB a d t.size = false := by simpa using hf
      go_enter Try.func5, Try.ntmps5
      go_wp2_with (first | (go_at_call 12; refine (fits_any _ _ _ _ _).mono ?_; rintro e w1 ⟨rfl, hb1⟩; first | (obtain ⟨dd, oo, rfl⟩ := fut_of (Fut.trans (Fut.fut _ _ _) hb1); clear hb1) | (obtain ⟨dd, oo, rfl⟩ := fut_of hb1; clear hb1)) | (go_at_call 9; refine (awake_any _).mono ?_; rintro e w1 ⟨rfl, hb1⟩; first | (obtain ⟨dd, oo, rfl⟩ := fut_of (Fut.trans (Fut.fut _ _ _) hb1); clear hb1) | (obtain ⟨dd, oo, rfl⟩ := fut_of hb1; clear hb1)))
      go_ret
      exact ⟨rfl, hF.trans (Fut.fut _ _ _)⟩
  · go_enter Try.func5, Try.ntmps5
    go_wp2_with (first | (go_at_call 12; refine (fits_any _ _ _ _ _).mono ?_; rintro e w1 ⟨rfl, hb1⟩; first | (obtain ⟨dd, oo, rfl⟩ := fut_of (Fut.trans (Fut.fut _ _ _) hb1); clear hb1) | (obtain ⟨dd, oo, rfl⟩ := fut_of hb1; clear hb1)) | (go_at_call 9; refine (awake_any _).mono ?_; rintro e w1 ⟨rfl, hb1⟩; first | (obtain ⟨dd, oo, rfl⟩ := fut_of (Fut.trans (Fut.fut _ _ _) hb1); clear hb1) | (obtain ⟨dd, oo, rfl⟩ := fut_of hb1; clear hb1)))
    go_ret
    exact ⟨rfl, hF.trans (Fut.fut _ _ _)⟩
end Go.Proofs.Ytgofpppogoabaaa
