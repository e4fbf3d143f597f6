/-
  Validity of a normal grammar, as the program has it.
-/
import Derived.Test.YtleapckcihcpaaaN1
import Derived.Test.YtleapckcihcpaaaD0
namespace Go.Proofs.Ytleapckcihcpaaa
open Go.RowKit PK
attribute [local go_sem] Oper.lit Oper.litS fut_fut fut_drew World.cell?_alloc_some
theorem in1_any (N x : Int) (b : Nat) (w : World) (hc : w.cell? ⟨b, 1, none⟩ = some (.int .i64 N)) :
    Calls Try.prog 57 #[.int .i64 x, .pointer (some ⟨b, 0, none⟩)] w fun e w' => e = .returned (.bool (inN N x)) ∧ w' = w := by
  go_enter Try.func57, Try.ntmps57
  go_wp2
  all_goals
    go_returns
    refine ⟨?_, rfl⟩
    first | rfl | (simp_all [inN]; try omega)
set_option maxHeartbeats 6400000 in
theorem bval_any (T N st : Int) (A : Option Addr) (n c : Nat) (r : NR) (w : World) :
    Calls Try.prog 50 #[nmv T N st A n c, .agg #[.int .i64 r.kd, .int .i64 r.h, .int .i64 r.a, .int .i64 r.b, .int .i64 r.p, .int .i64 r.o]] w fun e w' => e = .returned (.bool (okN T N r)) ∧ Below w.heap.size w w' := by
  obtain ⟨kd, h, a, b, p, o⟩ := r
  simp only
  obtain ⟨wb, hwb⟩ : ∃ wb, wb = (w.alloc (.cells #[.int .i64 T, .int .i64 N, .int .i64 st, .slice A n c] 24)).alloc (.cells #[.int .i64 kd, .int .i64 h, .int .i64 a, .int .i64 b, .int .i64 p, .int .i64 o] 47) := ⟨_, rfl⟩
  have HF := Lib.hid (show Fut w wb from by rw [hwb]; exact ((Fut.refl w).alloc _).alloc _)
  have HB := Lib.hid (show Blk wb w.heap.size 24 #[.int .i64 T, .int .i64 N, .int .i64 st, .slice A n c] from by rw [hwb]; exact Blk.alloc (show Blk _ _ _ _ from heap_new' _ _ _ rfl) _)
  have HC := Lib.hid (show Blk wb (w.heap.size + 1) 47 #[.int .i64 kd, .int .i64 h, .int .i64 a, .int .i64 b, .int .i64 p, .int .i64 o] from by rw [hwb]; exact heap_new' _ _ _ (World.size_alloc _ _).symm)
  go_enter Try.func50, Try.ntmps50
  go_wp2_with fail
  rw [← hwb]
  clear hwb
  have HI := Lib.hid (fun x => in1_any N x w.heap.size wb (HB.out.cell (i := 1) rfl))
  have q0 := HB.out.cell (i := 0) rfl
  have r0 := HC.out.cell (i := 0) rfl
  have r2 := HC.out.cell (i := 2) rfl
  have r3 := HC.out.cell (i := 3) rfl
  have r4 := HC.out.cell (i := 4) rfl
  have r5 := HC.out.cell (i := 5) rfl
  refine (HI.out h).mono ?_
  rintro e w1 ⟨rfl, hw⟩
  subst hw
  obtain ⟨i1, h1⟩ : ∃ i, inN N h = i := ⟨_, rfl⟩
  obtain ⟨i2, h2⟩ : ∃ i, inN N a = i := ⟨_, rfl⟩
  obtain ⟨i3, h3⟩ : ∃ i, inN N b = i := ⟨_, rfl⟩
  rw [h1]
  cases i1 with
  | false =>
    have HA := Lib.hid (show okN T N ⟨kd, h, a, b, p, o⟩ = false from by simp [okN, h1])
    go_wp2_with fail
    go_ret
    exact ⟨by rw [HA.out]; rfl, HF.out⟩
  | true =>
    by_cases hp : 0 ≤ p ∧ p ≤ 1000 ∧ -1 ≤ o
    · obtain ⟨p1, p2, p3⟩ := hp
      have x1 : (p < 0) = False := eq_false (by omega)
      have x2 : (1000 < p) = False := eq_false (by omega)
      have x3 : (o < -1) = False := eq_false (by omega)
      have HA := Lib.hid (show okN T N ⟨kd, h, a, b, p, o⟩ = bodyN T N ⟨kd, h, a, b, p, o⟩ from by simp [okN, h1, p1, p2, p3])
      have H2 := Lib.hid h2
      have H3 := Lib.hid h3
      clear p1 p2 p3 h1 h2 h3
      by_cases k1 : kd = 1
      · subst k1
        go_wp2_with fail
        all_goals
          go_ret
          refine ⟨?_, HF.out⟩
          rw [HA.out]
          simp [bodyN]
          try simp_all
          try rfl
      · by_cases k2 : kd = 2
        · subst k2
          go_wp2_with fail
          all_goals
            go_ret
            refine ⟨?_, HF.out⟩
            rw [HA.out]
            simp [bodyN, inN]
            try simp_all
            try omega
            try rfl
        · by_cases k3 : kd = 3
          · subst k3
            go_wp2_with fail
            refine (HI.out a).mono ?_
            rintro e w1 ⟨rfl, hw⟩
            subst hw
            have HA2 := Lib.hid (show okN T N ⟨3, h, a, b, p, o⟩ = (i2 && decide (b = 0)) from by rw [HA.out]; simp [bodyN, H2.out])
            rw [H2.out]
            cases i2 with
            | false =>
              go_wp2_with fail
              go_ret
              exact ⟨by rw [HA2.out]; rfl, HF.out⟩
            | true =>
              go_wp2_with fail
              go_ret
              refine ⟨?_, HF.out⟩
              rw [HA2.out]
              first | rfl | simp
          · by_cases k4 : kd = 4
            · subst k4
              go_wp2_with fail
              refine (HI.out a).mono ?_
              rintro e w1 ⟨rfl, hw⟩
              subst hw
              have HA2 := Lib.hid (show okN T N ⟨4, h, a, b, p, o⟩ = (i2 && i3) from by rw [HA.out]; simp [bodyN, H2.out, H3.out])
              rw [H2.out]
              cases i2 with
              | false =>
                go_wp2_with fail
                go_ret
                exact ⟨by rw [HA2.out]; rfl, HF.out⟩
              | true =>
                go_wp2_with fail
                refine (HI.out b).mono ?_
                rintro e w1 ⟨rfl, hw⟩
                subst hw
                rw [H3.out]
                go_wp2_with fail
                go_ret
                refine ⟨?_, HF.out⟩
                rw [HA2.out]
                first | rfl | simp
            · have HA2 := Lib.hid (show okN T N ⟨kd, h, a, b, p, o⟩ = false from by rw [HA.out]; simp [bodyN, k1, k2, k3, k4])
              obtain ⟨y1, y2, y3⟩ := cmpF_no k1
              obtain ⟨y4, y5, y6⟩ := cmpF_no k2
              obtain ⟨y7, y8, y9⟩ := cmpF_no k3
              obtain ⟨z1, z2, z3⟩ := cmpF_no k4
              clear k1 k2 k3 k4
              go_wp2_with fail
              go_ret
              exact ⟨by rw [HA2.out]; rfl, HF.out⟩
    · have HA := Lib.hid (show okN T N ⟨kd, h, a, b, p, o⟩ = false from by
        cases hx : okN T N ⟨kd, h, a, b, p, o⟩ with
        | false => rfl
        | true =>
          simp only [okN, Bool.and_eq_true, decide_eq_true_eq] at hx
          exact absurd ⟨hx.1.1.1.2, hx.1.1.2, hx.1.2⟩ hp)
      have hg : p < 0 ∨ (¬ p < 0 ∧ 1000 < p) ∨ (¬ p < 0 ∧ ¬ 1000 < p ∧ o < -1) := by omega
      clear hp
      rcases hg with g1 | ⟨g1, g2⟩ | ⟨g1, g2, g3⟩
      all_goals
        go_wp2_with fail
        go_ret
        exact ⟨by rw [HA.out]; rfl, HF.out⟩
end Go.Proofs.Ytleapckcihcpaaa
