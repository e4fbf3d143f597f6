/-
  The example of the document holds: awake.
-/
import Derived.Test.YtagmpbgidooibaaC20
namespace Go.Proofs.Ytagmpbgidooibaa
open Go.RowKit Go.Deep
attribute [local go_sem] Oper.lit Oper.litS fut_fut fut_drew World.cell?_alloc_some
set_option maxHeartbeats 6400000 in
set_option maxRecDepth 4000 in
theorem awake_any (w : World) : Calls Try.prog 10 #[] w fun e w' => e = .returned (.bool true) ∧ Below w.heap.size w w' := by
  have e37 : ∀ z : Int, (z == z) = true := fun z => by simp
  go_enter Try.func10, Try.ntmps10
  go_wp2_with fail
  obtain ⟨W3, hW3⟩ : ∃ W, W = ((w.alloc (.cells #[.int .i64 0, .int .i64 (-1)] 3)).alloc (.cells #[.int .i64 1, .int .i64 9] 53)).alloc (.cells #[.slice none 0 0, .slice (some ⟨w.heap.size + 1, 0, none⟩) 1 1] 54) := ⟨_, rfl⟩
  have HK3 := Lib.hid (show Rd1 W3 (some ⟨w.heap.size, 0, none⟩) (.int .i64 ·) exK from rd_blk (l := exK) (by rw [hW3]; (repeat (first | exact heap_new' _ _ _ (by simp only [World.size_alloc]) | refine (blk_alloc_lt _ _ _ (by simp only [World.size_alloc]; omega)).trans ?_))))
  have HX3 := Lib.hid (show RdX W3 (some ⟨w.heap.size + 1 + 1, 0, none⟩) (exX (some ⟨w.heap.size + 1, 0, none⟩)) from by
    refine ⟨rds_blk (enc := encX) (fun _ => rfl) (by rw [hW3]; (repeat (first | exact heap_new' _ _ _ (by simp only [World.size_alloc]) | refine (blk_alloc_lt _ _ _ (by simp only [World.size_alloc]; omega)).trans ?_))), fun r hr => ?_⟩
    simp only [exX, List.mem_cons, List.not_mem_nil, or_false] at hr
    rcases hr with rfl | rfl
    · exact ⟨RdS.nil, show (0 : Nat) ≤ maxLen by decide⟩
    · exact ⟨rds_blk (l := [(1, 9)]) (enc := encP) (fun _ => rfl) (by rw [hW3]; (repeat (first | exact heap_new' _ _ _ (by simp only [World.size_alloc]) | refine (blk_alloc_lt _ _ _ (by simp only [World.size_alloc]; omega)).trans ?_))), show (1 : Nat) ≤ maxLen by decide⟩)
  have HF3 := Lib.hid (show Fut w W3 from by rw [hW3]; exact (((Fut.refl w).alloc _).alloc _).alloc _)
  rw [← hW3]
  clear hW3
  refine (example_any W3).mono ?_
  rintro e w4 ⟨⟨A1, A2, A3, A, B, rfl, h1, h2, h3⟩, hb⟩
  have HF4 := Lib.hid (show Fut w w4 from HF3.out.trans hb)
  have HK4 := Lib.hid (HK3.out.fut hb)
  have HX4 := Lib.hid (HX3.out.fut hb)
  have H1 := Lib.hid h1
  have H2 := Lib.hid h2
  have H3 := Lib.hid h3
  clear h1 h2 h3 hb HK3 HX3
  go_wp2_with fail
  refine (of_any (some ⟨w.heap.size, 0, none⟩) 2 2 exK (some ⟨w.heap.size + 1 + 1, 0, none⟩) 2 2 (exX (some ⟨w.heap.size + 1, 0, none⟩)) A1 2 2 A2 2 2 A3 2 2 2 8 exI exD (exR A B) w4 rfl (by omega) rfl (by decide) rfl rfl rfl (by omega) (by decide) (by decide) HK4.out HX4.out H1.out H2.out H3.out).mono ?_
  rintro e w5 ⟨hr, hb⟩
  obtain ⟨OA, Oc, cols, rfl, hkey, hrd⟩ := hr.2 (ex_ofE _ _ _)
  have HF5 := Lib.hid (show Fut w w5 from HF4.out.trans hb)
  have HKEY := Lib.hid hkey
  have HRD := Lib.hid hrd
  have HI5 := Lib.hid (H1.out.fut hb)
  clear hr hkey hrd hb HK4 HX4 H1 H2 H3
  go_wp2_with fail
  obtain ⟨W6, hW6⟩ : ∃ W, W = (((((w5.alloc (.cells #[.slice OA 2 Oc, .slice A1 2 2, .int .i64 2] 25)).alloc (.cells #[.int .i64 0, .int .i64 7] 3)).alloc (.cells #[.int .i64 (-1), .int .i64 9] 3)).alloc (.cells #[.int .i64 0, .slice (some ⟨w5.heap.size + 1, 0, none⟩) 2 2, .int .i64 5, .int .i64 (-1), .slice (some ⟨w5.heap.size + 1 + 1, 0, none⟩) 2 2, .int .i64 8] 51)).alloc (.cells #[.int .i64 3, .int .i64 4] 3)).alloc (.cells #[.slice (some ⟨w5.heap.size + 1 + 1 + 1, 0, none⟩) 2 2, .slice (some ⟨w5.heap.size + 1 + 1 + 1 + 1, 0, none⟩) 2 2, .int .i64 2] 25) := ⟨_, rfl⟩
  have HW6 := Lib.hid (show RdC W6 (some ⟨w5.heap.size + 1 + 1 + 1, 0, none⟩) (exW (some ⟨w5.heap.size + 1, 0, none⟩) (some ⟨w5.heap.size + 1 + 1, 0, none⟩)) from by
    refine ⟨rds_blk (enc := encC) (fun _ => rfl) (by rw [hW6]; (repeat (first | exact heap_new' _ _ _ (by simp only [World.size_alloc]) | refine (blk_alloc_lt _ _ _ (by simp only [World.size_alloc]; omega)).trans ?_))), fun r hr => ?_⟩
    simp only [exW, List.mem_cons, List.not_mem_nil, or_false] at hr
    rcases hr with rfl | rfl
    · exact ⟨rd_blk (l := [0, 7]) (by rw [hW6]; (repeat (first | exact heap_new' _ _ _ (by simp only [World.size_alloc]) | refine (blk_alloc_lt _ _ _ (by simp only [World.size_alloc]; omega)).trans ?_))), show (2 : Nat) ≤ maxLen by decide⟩
    · exact ⟨rd_blk (l := [-1, 9]) (by rw [hW6]; (repeat (first | exact heap_new' _ _ _ (by simp only [World.size_alloc]) | refine (blk_alloc_lt _ _ _ (by simp only [World.size_alloc]; omega)).trans ?_))), show (2 : Nat) ≤ maxLen by decide⟩)
  have HI6 := Lib.hid (show Rd1 W6 (some ⟨w5.heap.size + 1 + 1 + 1 + 1, 0, none⟩) (.int .i64 ·) exI from rd_blk (l := exI) (by rw [hW6]; (repeat (first | exact heap_new' _ _ _ (by simp only [World.size_alloc]) | refine (blk_alloc_lt _ _ _ (by simp only [World.size_alloc]; omega)).trans ?_))))
  have HB1 := Lib.hid (show CelI W6 w5.heap.size (.slice OA 2 Oc) (.slice A1 2 2) (.int .i64 2) from by unfold CelI; rw [hW6]; (repeat (first | exact heap_new' _ _ _ (by simp only [World.size_alloc]) | refine (blk_alloc_lt _ _ _ (by simp only [World.size_alloc]; omega)).trans ?_)))
  have HB2 := Lib.hid (show CelI W6 (w5.heap.size + 1 + 1 + 1 + 1 + 1) (.slice (some ⟨w5.heap.size + 1 + 1 + 1, 0, none⟩) 2 2) (.slice (some ⟨w5.heap.size + 1 + 1 + 1 + 1, 0, none⟩) 2 2) (.int .i64 2) from by unfold CelI; rw [hW6]; (repeat (first | exact heap_new' _ _ _ (by simp only [World.size_alloc]) | refine (blk_alloc_lt _ _ _ (by simp only [World.size_alloc]; omega)).trans ?_)))
  have HF6 := Lib.hid (show Fut w5 W6 from by rw [hW6]; exact ((((((Fut.refl w5).alloc _).alloc _).alloc _).alloc _).alloc _).alloc _)
  rw [← hW6]
  clear hW6
  refine (replace_any (some ⟨w5.heap.size + 1 + 1 + 1, 0, none⟩) 2 2 (some ⟨w5.heap.size + 1 + 1 + 1 + 1, 0, none⟩) 2 2 2 0 1 0 none 0 0 (exW (some ⟨w5.heap.size + 1, 0, none⟩) (some ⟨w5.heap.size + 1 + 1, 0, none⟩)) [] exI W6 rfl (by omega) rfl (by omega) rfl (by omega) (by omega) (by decide) (.inr ⟨_, _, rfl⟩) (fun _ => ⟨rfl, rfl⟩) HW6.out HI6.out ⟨RdS.nil, fun _ h => by simp at h⟩).mono ?_
  rintro e w7 ⟨hr, hb⟩
  obtain ⟨RA, Rc, rfl, hrd⟩ := hr.2 (ex_repE _ _)
  rw [show repC (exW (some ⟨w5.heap.size + 1, 0, none⟩) (some ⟨w5.heap.size + 1 + 1, 0, none⟩)) [] (Int.toNat 0) (Int.toNat 1) = [⟨-1, [-1, 9], 8, some ⟨w5.heap.size + 1 + 1, 0, none⟩, 2⟩] from rfl] at hrd ⊢
  obtain ⟨b9, o9, rfl, hc9⟩ := hrd.1 0 _ rfl
  have u9 := hc9 0 _ (by decide) rfl
  simp only [Nat.zero_mul, Nat.add_zero] at u9
  have HF7 := Lib.hid (show Fut W6 w7 from hb)
  clear hr hrd hb hc9
  obtain ⟨wn, hwn⟩ : ∃ q : Nat, q = w7.heap.size := ⟨_, rfl⟩
  have HA7 := Lib.hid (show Fut W6 (w7.alloc (.cells #[.slice (some ⟨b9, o9, none⟩) 1 Rc, .slice (some ⟨w5.heap.size + 1 + 1 + 1 + 1, 0, none⟩) 2 2, .int .i64 2] 25)) from HF7.out.alloc _)
  have HB3 := Lib.hid (show CelI (w7.alloc (.cells #[.slice (some ⟨b9, o9, none⟩) 1 Rc, .slice (some ⟨w5.heap.size + 1 + 1 + 1 + 1, 0, none⟩) 2 2, .int .i64 2] 25)) w7.heap.size (.slice (some ⟨b9, o9, none⟩) 1 Rc) (.slice (some ⟨w5.heap.size + 1 + 1 + 1 + 1, 0, none⟩) 2 2) (.int .i64 2) from heap_new' _ _ _ rfl)
  have HU9 := Lib.hid (((Fut.refl w7).alloc (.cells #[.slice (some ⟨b9, o9, none⟩) 1 Rc, .slice (some ⟨w5.heap.size + 1 + 1 + 1 + 1, 0, none⟩) 2 2, .int .i64 2] 25)).cell u9)
  have a0 := (HB1.out.fut HA7.out).c0
  have a1 := (HB1.out.fut HA7.out).c1
  have a2 := (HB1.out.fut HA7.out).c2
  have a3 := (HB2.out.fut HA7.out).c0
  have a4 := (HB2.out.fut HA7.out).c1
  have a5 := (HB2.out.fut HA7.out).c2
  clear u9
  go_wp2_with fail
  generalize w7.alloc (.cells #[.slice (some ⟨b9, o9, none⟩) 1 Rc, .slice (some ⟨w5.heap.size + 1 + 1 + 1 + 1, 0, none⟩) 2 2, .int .i64 2] 25) = w8 at *
  refine (same_any OA 2 Oc A1 2 2 2 _ 2 _ 2 cols _ exI w8 (by have h9 := congrArg List.length HKEY.out; simpa [ofK, exK] using h9) (by decide) rfl (by decide) (HKEY.out.trans (ex_ofK _ _ _ (some ⟨w5.heap.size + 1, 0, none⟩) (some ⟨w5.heap.size + 1 + 1, 0, none⟩))) (HRD.out.fut (HF6.out.trans HA7.out)) (HW6.out.fut HA7.out) (HI5.out.fut (HF6.out.trans HA7.out)) (HI6.out.fut HA7.out)).mono ?_
  rintro e w9 ⟨rfl, hb⟩
  have HA9 := Lib.hid (show Fut W6 w9 from HA7.out.trans hb)
  have HB4 := Lib.hid (HB3.out.fut hb)
  have HU10 := Lib.hid (Fut.cell hb HU9.out)
  have b3 := (HB2.out.fut HA9.out).c0
  have b4 := (HB2.out.fut HA9.out).c1
  have b5 := (HB2.out.fut HA9.out).c2
  clear hb a0 a1 a2 a3 a4 a5
  go_wp2_with fail
  refine (valid_any 2 _ 2 2 _ _ 2 2 exI 2 w9 rfl (by decide) (HW6.out.fut HA9.out) rfl (by decide) (HI6.out.fut HA9.out)).mono ?_
  rintro e w10 ⟨rfl, hb⟩
  rw [ex_val2]
  have HA10 := Lib.hid (show Fut W6 w10 from HA9.out.trans hb)
  have HB5 := Lib.hid (HB4.out.fut hb)
  have HU11 := Lib.hid (Fut.cell hb HU10.out)
  have d3 := (HB2.out.fut HA10.out).c0
  have d4 := (HB2.out.fut HA10.out).c1
  have d5 := (HB2.out.fut HA10.out).c2
  clear hb b3 b4 b5
  go_wp2_with fail
  refine (valid_any 3 _ 2 2 _ _ 2 2 exI 2 w10 rfl (by decide) (HW6.out.fut HA10.out) rfl (by decide) (HI6.out.fut HA10.out)).mono ?_
  rintro e w11 ⟨rfl, hb⟩
  rw [ex_val3]
  have HA11 := Lib.hid (show Fut W6 w11 from HA10.out.trans hb)
  have HB6 := Lib.hid (HB5.out.fut hb)
  have HU12 := Fut.cell hb HU11.out
  have g0 := HB6.out.c0
  clear hb d3 d4 d5
  go_wp2_with fail
  go_ret
  exact ⟨rfl, HF5.out.trans (HF6.out.trans HA11.out)⟩
end Go.Proofs.Ytagmpbgidooibaa
