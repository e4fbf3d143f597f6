/-
  The reference's validity of a column.
-/
import Derived.Test.YtagmpbgidooibaaC1
namespace Go.Proofs.Ytagmpbgidooibaa
open Go.RowKit
attribute [local go_sem] Oper.lit fut_fut fut_drew World.cell?_alloc_some
set_option maxHeartbeats 3200000 in
theorem rColumn_any (T kd d : Int) (r : List Int) (A : Option Addr) (k : Nat) (w : World) (hR : Rd1 w A (.int .i64 ·) r) (hl : r.length ≤ maxLen) :
    Calls Try.prog 38 #[.agg #[.int .i64 kd, .slice A r.length k, .int .i64 d], .int .i64 T] w fun e w' => e = .returned (.bool (colB T ⟨kd, r, d, A, k⟩)) ∧ Below w.heap.size w w' := by
  have hl' : r.length ≤ 9223372036854775807 := hl
  have HW := Lib.hid ((Fut.refl w).alloc (.cells #[.int .i64 kd, .slice A r.length k, .int .i64 d] 51))
  have q0 : (w.alloc (.cells #[.int .i64 kd, .slice A r.length k, .int .i64 d] 51)).cell? ⟨w.heap.size, 0, none⟩ = some (.int .i64 kd) := by (repeat (first | exact (cell_al_new _ _ _ _ _ _ (by first | rfl | (simp only [World.size_alloc]))).trans rfl | refine (cell_al_old _ _ _ (by first | omega | (simp only [World.size_alloc]; omega))).trans ?_))
  have q1 : (w.alloc (.cells #[.int .i64 kd, .slice A r.length k, .int .i64 d] 51)).cell? ⟨w.heap.size, 1, none⟩ = some (.slice A r.length k) := by (repeat (first | exact (cell_al_new _ _ _ _ _ _ (by first | rfl | (simp only [World.size_alloc]))).trans rfl | refine (cell_al_old _ _ _ (by first | omega | (simp only [World.size_alloc]; omega))).trans ?_))
  have q2 : (w.alloc (.cells #[.int .i64 kd, .slice A r.length k, .int .i64 d] 51)).cell? ⟨w.heap.size, 2, none⟩ = some (.int .i64 d) := by (repeat (first | exact (cell_al_new _ _ _ _ _ _ (by first | rfl | (simp only [World.size_alloc]))).trans rfl | refine (cell_al_old _ _ _ (by first | omega | (simp only [World.size_alloc]; omega))).trans ?_))
  have HR := Lib.hid (hR.fut HW.out)
  clear hR hl
  by_cases hg : (-1 ≤ kd ∧ kd < T) ∧ (r.length : Int) = T ∧ okD d = true
  · obtain ⟨⟨g1, g2⟩, rfl, g4⟩ := hg
    have HG := Lib.hid (show ∀ b, allB r.length (fun t => okP kd t (gi r t)) = b → colB (r.length : Int) ⟨kd, r, d, A, k⟩ = b from fun b hb => by simp only [colB, g1, g2, g4, hb]; simp)
    have hor : (1 ≤ d ∧ d ≤ 60000) ∨ (60000 < d ∧ d = 1099511627776) := by
      cases h : lg d with
      | true => exact .inl ((lg_iff d).1 h)
      | false =>
        have h9 : d = 1099511627776 := by simpa [okD, h] using g4
        exact .inr ⟨by omega, h9⟩
    clear g4
    rcases hor with ⟨h1, h1b⟩ | ⟨h1, h2⟩
    all_goals
      try (obtain ⟨h2a, h2b, h2c⟩ := cmpF_yes h2; clear h2)
      go_enter Try.func38, Try.ntmps38
      go_wp2_with fail
      generalize w.alloc (.cells #[.int .i64 kd, .slice A r.length k, .int .i64 d] 51) = wb at *
      go_loopw [5] (fun i wr => ∃ j : Nat, j ≤ r.length ∧ i = .int .i64 j ∧ Hid (∀ t, t < j → okP kd t (gi r t) = true) ∧ wr = wb) (fun i _ => r.length - (intOf i).toNat)
      case atStart => exact ⟨0, Nat.zero_le _, rfl, Lib.hid (fun t h => absurd h (Nat.not_lt_zero _)), rfl⟩
      case round =>
        obtain ⟨j, hj, rfl, hall, rfl⟩ := hrel
        by_cases hlt : j < r.length
        · obtain ⟨x, hx⟩ := get_lt rfl hlt
          obtain ⟨b, o, rfl, hc⟩ := HR.out j x hx
          have HX := Lib.hid (gi_get hx)
          clear hx
          have hcase : (okP kd j x = true ∧ ((j : Int) = kd ∧ x = 0 ∨ ¬ (j : Int) = kd ∧ (x = -1 ∨ ¬ x = -1 ∧ lg x = true))) ∨ (okP kd j x = false ∧ ((j : Int) = kd ∧ ¬ x = 0 ∨ ¬ (j : Int) = kd ∧ ¬ x = -1 ∧ lg x = false)) := by
            unfold okP
            by_cases e : (j : Int) = kd
            · by_cases e0 : x = 0 <;> simp [e, e0]
            · by_cases e0 : x = -1
              · simp [e, e0]
              · cases h : lg x <;> simp [e, e0]
          rcases hcase with ⟨hok, hcs⟩ | ⟨hok, hcs⟩
          · have HOK := Lib.hid hok
            clear hok
            rcases hcs with ⟨e1, e2⟩ | ⟨e1, e2 | ⟨e2, e3⟩⟩
            all_goals
              first | (replace e1 := cmpF_yes e1) | (replace e1 := cmpF_no e1)
              first | (replace e2 := cmpF_yes e2) | (replace e2 := cmpF_no e2)
              obtain ⟨e1a, e1b, e1c⟩ := e1
              obtain ⟨e2a, e2b, e2c⟩ := e2
              try (obtain ⟨e3a, e3b⟩ := (lg_iff x).1 e3; clear e3)
              go_wp2_with fail
              exact ⟨⟨j + 1, by omega, by go_num, Lib.hid (all_step hall.out (by rw [HX.out]; exact HOK.out)), by first | rfl | trivial⟩, by simp [intOf]; omega⟩
          · have HFin := Lib.hid (HG.out false (allB_false hlt (by rw [HX.out]; exact hok)))
            clear hok
            have hcs : ((j : Int) = kd ∧ ¬ x = 0) ∨ (¬ (j : Int) = kd ∧ ¬ x = -1 ∧ x < 1) ∨ (¬ (j : Int) = kd ∧ ¬ x = -1 ∧ ¬ x < 1 ∧ 60000 < x) := by
              rcases hcs with h | ⟨h, h2, h3⟩
              · exact .inl h
              · simp [lg] at h3
                by_cases h4 : x < 1
                · exact .inr (.inl ⟨h, h2, h4⟩)
                · exact .inr (.inr ⟨h, h2, h4, h3 (by omega)⟩)
            rcases hcs with ⟨e1, e2⟩ | ⟨e1, e2, e3⟩ | ⟨e1, e2, e3, e4⟩
            all_goals
              first | (replace e1 := cmpF_yes e1) | (replace e1 := cmpF_no e1)
              first | (replace e2 := cmpF_yes e2) | (replace e2 := cmpF_no e2)
              obtain ⟨e1a, e1b, e1c⟩ := e1
              obtain ⟨e2a, e2b, e2c⟩ := e2
              go_wp2_with fail
              go_ret
              exact ⟨by rw [HFin.out]; rfl, HW.out⟩
        · have HFin := Lib.hid (HG.out true (allB_true (fun t ht => hall.out t (by omega))))
          go_wp2_with fail
          go_ret
          exact ⟨by rw [HFin.out]; rfl, HW.out⟩
  · have HFin := Lib.hid (show colB T ⟨kd, r, d, A, k⟩ = false by
      cases h : colB T ⟨kd, r, d, A, k⟩ with
      | false => rfl
      | true =>
        simp only [colB, Bool.and_eq_true, decide_eq_true_eq] at h
        exact absurd ⟨⟨h.1.1.1.1, h.1.1.1.2⟩, h.1.1.2, h.1.2⟩ hg)
    have hor : kd < -1 ∨ (¬ kd < -1 ∧ T ≤ kd) ∨ (¬ kd < -1 ∧ kd < T ∧ ¬ (r.length : Int) = T) ∨ (¬ kd < -1 ∧ kd < T ∧ (r.length : Int) = T ∧ d < 1) ∨ (¬ kd < -1 ∧ kd < T ∧ (r.length : Int) = T ∧ ¬ d < 1 ∧ 60000 < d ∧ ¬ d = 1099511627776) := by
      by_cases h1 : kd < -1
      · exact .inl h1
      by_cases h2 : T ≤ kd
      · exact .inr (.inl ⟨h1, h2⟩)
      by_cases h3 : (r.length : Int) = T
      · have h4 : ¬ okD d = true := fun h4 => hg ⟨⟨by omega, by omega⟩, h3, h4⟩
        simp only [okD, Bool.or_eq_true, not_or, decide_eq_true_eq, lg_iff] at h4
        by_cases h5 : d < 1
        · exact .inr (.inr (.inr (.inl ⟨h1, by omega, h3, h5⟩)))
        · exact .inr (.inr (.inr (.inr ⟨h1, by omega, h3, h5, by omega, h4.2⟩)))
      · exact .inr (.inr (.inl ⟨h1, by omega, h3⟩))
    clear hg
    rcases hor with h1 | ⟨h1, h2⟩ | ⟨h1, h2, h3⟩ | ⟨h1, h2, h3, h4⟩ | ⟨h1, h2, h3, h4, h6, h5⟩
    all_goals
      try (obtain ⟨h5a, h5b, h5c⟩ := cmpF_no h5; clear h5)
      try (first | (obtain ⟨h3a, h3b, h3c⟩ := cmpF_yes h3; clear h3) | (obtain ⟨h3a, h3b, h3c⟩ := cmpF_no h3; clear h3))
      go_enter Try.func38, Try.ntmps38
      go_wp2_with fail
      go_ret
      exact ⟨by rw [HFin.out]; rfl, HW.out⟩
end Go.Proofs.Ytagmpbgidooibaa
