/-
  The reference's validity of inputs; sameness of equal inputs.
-/
import Derived.Test.YtagmpbgidooibaaC7
namespace Go.Proofs.Ytagmpbgidooibaa
open Go.RowKit
attribute [local go_sem] Oper.lit fut_fut fut_drew World.cell?_alloc_some
set_option maxHeartbeats 6400000 in
set_option maxRecDepth 4000 in
theorem rValid_any (T : Int) (A : Option Addr) (n c : Nat) (cs : List CC) (B : Option Addr) (m d : Nat) (ins : List Int) (s : Int) (w : World) (hl : cs.length = n) (hn : n ≤ maxLen) (hR : RdC w A cs) (hil : ins.length = m) (hm : m ≤ maxLen) (hI : Rd1 w B (.int .i64 ·) ins) :
    Calls Try.prog 12 #[iv A n c B m d s, .int .i64 T] w fun e w' => e = .returned (.bool (validI T cs ins s)) ∧ Below w.heap.size w w' := by
  have HN := Lib.hid hn
  have hn' : n ≤ 9223372036854775807 := hn
  have hm' : m ≤ 9223372036854775807 := hm
  have HW := Lib.hid ((Fut.refl w).alloc (.cells #[.slice A n c, .slice B m d, .int .i64 s] 25))
  have q0 : ∀ dd os, (fut (w.alloc (.cells #[.slice A n c, .slice B m d, .int .i64 s] 25)) dd os).cell? ⟨w.heap.size, 0, none⟩ = some (.slice A n c) := cell_fut (by (repeat (first | exact (cell_al_new _ _ _ _ _ _ (by first | rfl | (simp only [World.size_alloc]))).trans rfl | refine (cell_al_old _ _ _ (by first | omega | (simp only [World.size_alloc]; omega))).trans ?_)))
  have q1 : ∀ dd os, (fut (w.alloc (.cells #[.slice A n c, .slice B m d, .int .i64 s] 25)) dd os).cell? ⟨w.heap.size, 1, none⟩ = some (.slice B m d) := cell_fut (by (repeat (first | exact (cell_al_new _ _ _ _ _ _ (by first | rfl | (simp only [World.size_alloc]))).trans rfl | refine (cell_al_old _ _ _ (by first | omega | (simp only [World.size_alloc]; omega))).trans ?_)))
  have q2 : ∀ dd os, (fut (w.alloc (.cells #[.slice A n c, .slice B m d, .int .i64 s] 25)) dd os).cell? ⟨w.heap.size, 2, none⟩ = some (.int .i64 s) := cell_fut (by (repeat (first | exact (cell_al_new _ _ _ _ _ _ (by first | rfl | (simp only [World.size_alloc]))).trans rfl | refine (cell_al_old _ _ _ (by first | omega | (simp only [World.size_alloc]; omega))).trans ?_)))
  have HR := Lib.hid (hR.fut HW.out)
  have HI := Lib.hid (hI.fut HW.out)
  have HL := Lib.hid hl
  have HIL := Lib.hid hil
  clear hR hI hl hil hn hm
  by_cases hg : 0 ≤ T ∧ n ≤ 60 ∧ (m : Int) = T ∧ 0 ≤ s ∧ s ≤ 60000
  · obtain ⟨g1, g2, rfl, g4, g5⟩ := hg
    have HV := Lib.hid (show ∀ a b, ins.all lg = a → cs.all (colB (m : Int)) = b → validI (m : Int) cs ins s = (a && b) from fun a b ha hb => by
      have e1 : cs.length ≤ 60 := by rw [HL.out]; exact g2
      have e2 : (ins.length : Int) = (m : Int) := by rw [HIL.out]
      have e3 : (decide (s = 0) || lg s) = true := by simp [lg]; omega
      simp only [validI, ha, hb, e3, decide_eq_true g1, decide_eq_true e1, decide_eq_true e2, Bool.true_and])
    cases hb : cs.all (colB (m : Int)) with
    | false =>
      have HB := Lib.hid hb
      have HCI := Lib.hid (rcols_any m A n c cs _ HL.out HN.out HR.out)
      rw [hb] at HCI
      clear hb
      go_enter Try.func12, Try.ntmps12
      go_wp2_with (go_at_call 26; refine HCI.out.mono ?_; rintro e w1 ⟨rfl, hb1⟩; obtain ⟨dd, oo, rfl⟩ := fut_of hb1; clear hb1)
      go_ret
      exact ⟨by rw [HV.out _ _ rfl HB.out, Bool.and_false]; rfl, HW.out.trans (Fut.fut _ _ _)⟩
    | true =>
      have HB := Lib.hid hb
      have HCI := Lib.hid (rcols_any m A n c cs _ HL.out HN.out HR.out)
      rw [hb] at HCI
      clear hb
      go_enter Try.func12, Try.ntmps12
      go_wp2_with (go_at_call 26; refine HCI.out.mono ?_; rintro e w1 ⟨rfl, hb1⟩; obtain ⟨dd, oo, rfl⟩ := fut_of hb1; clear hb1)
      have q1' := q1 dd oo
      have HWW := Lib.hid (show Fut w (fut (w.alloc (.cells #[.slice A n c, .slice B m d, .int .i64 s] 25)) dd oo) from HW.out.trans (Fut.fut _ _ _))
      have HI2 := Lib.hid (HI.out.fut (Fut.fut _ dd oo))
      clear q0 q1 q2 HR HCI HI
      generalize fut (w.alloc (.cells #[.slice A n c, .slice B m d, .int .i64 s] 25)) dd oo = wb at *
      go_loopw [5] (fun i wr => ∃ j : Nat, j ≤ m ∧ i = .int .i64 j ∧ Hid ((ins.take j).all lg = true) ∧ wr = wb) (fun i _ => m - (intOf i).toNat)
      case atStart => exact ⟨0, Nat.zero_le _, rfl, Lib.hid (by simp), rfl⟩
      case round =>
        obtain ⟨j, hj, rfl, hall, rfl⟩ := hrel
        by_cases hlt : j < m
        · obtain ⟨x, hx⟩ := get_lt HIL.out hlt
          obtain ⟨b, o, rfl, hc⟩ := HI2.out j x hx
          have HX := Lib.hid hx
          clear hx
          have hcase : (lg x = true ∧ 1 ≤ x ∧ x ≤ 60000) ∨ (lg x = false ∧ (x < 1 ∨ 1 ≤ x ∧ 60000 < x)) := by
            by_cases h : lg x = true
            · exact .inl ⟨h, (lg_iff x).1 h⟩
            · refine .inr ⟨bnot h, ?_⟩
              rw [lg_iff] at h
              omega
          rcases hcase with ⟨hok, h1, h2⟩ | ⟨hok, h1⟩
          · have HOK := Lib.hid hok
            clear hok
            go_wp2_with fail
            exact ⟨⟨j + 1, by omega, by go_num, Lib.hid (take_all hall.out HX.out HOK.out), by first | rfl | trivial⟩, by simp [intOf]; omega⟩
          · have HFin := Lib.hid (HV.out _ _ (all_not HX.out hok) HB.out)
            clear hok
            rcases h1 with h1 | ⟨h1, h2⟩
            all_goals
              go_wp2_with fail
              go_ret
              exact ⟨by rw [HFin.out]; rfl, HWW.out⟩
        · have HFin := Lib.hid (HV.out _ _ (all_take hall.out (by have := HIL.out; omega)) HB.out)
          go_wp2_with fail
          go_ret
          exact ⟨by rw [HFin.out]; rfl, HWW.out⟩
  · have HFin := Lib.hid (show validI T cs ins s = false from by
      refine bnot fun h => hg ?_
      obtain ⟨⟨⟨⟨⟨h1, h2⟩, h3⟩, h4⟩, _⟩, _⟩ := (validI_iff T cs ins s).1 h
      rw [HL.out] at h2
      rw [HIL.out] at h3
      rw [lg_iff] at h4
      omega)
    have hor : T < 0 ∨ (¬ T < 0 ∧ 60 < n) ∨ (¬ T < 0 ∧ ¬ 60 < n ∧ ¬ (m : Int) = T) ∨ (¬ T < 0 ∧ ¬ 60 < n ∧ (m : Int) = T ∧ s < 0) ∨ (¬ T < 0 ∧ ¬ 60 < n ∧ (m : Int) = T ∧ ¬ s < 0 ∧ 60000 < s) := by
      omega
    clear hg
    rcases hor with h1 | ⟨h1, h2⟩ | ⟨h1, h2, h3⟩ | ⟨h1, h2, h3, h4⟩ | ⟨h1, h2, h3, h4, h5⟩
    all_goals
      try (first | (obtain ⟨h3a, h3b, h3c⟩ := cmpF_yes h3; clear h3) | (obtain ⟨h3a, h3b, h3c⟩ := cmpF_no h3; clear h3))
      go_enter Try.func12, Try.ntmps12
      go_wp2_with fail
      go_ret
      exact ⟨by rw [HFin.out]; rfl, HW.out⟩
set_option maxHeartbeats 1600000 in
theorem same_eq (A B : Option Addr) (n c d : Nat) (l : List Int) (w : World) (hl : l.length = n) (hn : n ≤ maxLen) (hR : Rd1 w A (.int .i64 ·) l) (hS : Rd1 w B (.int .i64 ·) l) :
    Calls Try.prog 32 #[.slice A n c, .slice B n d] w fun e w' => e = .returned (.bool true) ∧ Below w.heap.size w w' := by
  have hn' : n ≤ 9223372036854775807 := hn
  have HR := Lib.hid hR
  have HS := Lib.hid hS
  have HL := Lib.hid hl
  clear hR hS hl hn
  go_enter Try.func32, Try.ntmps32
  go_wp2_with fail
  go_loopw [5] (fun i wr => ∃ j : Nat, j ≤ n ∧ i = .int .i64 j ∧ Fut w wr) (fun i _ => n - (intOf i).toNat)
  case atStart => exact ⟨0, Nat.zero_le _, rfl, Fut.refl _⟩
  case round =>
    obtain ⟨j, hj, rfl, hF⟩ := hrel
    by_cases hlt : j < n
    · obtain ⟨x, hx⟩ := get_lt HL.out hlt
      obtain ⟨b, o, rfl, hc1⟩ := HR.out j x hx
      obtain ⟨b2, o2, rfl, hc2⟩ := HS.out j x hx
      have f1 := cell_fut (hF.cell hc1)
      have f2 := cell_fut (hF.cell hc2)
      have HFF := Lib.hid hF
      clear hx hc1 hc2 hF
      have he : (x == x) = true := by simp
      go_wp2_with fail
      refine wp_region_M o_emendateref35_same_6 (by kernel_rfl) (by kernel_rfl) (by intro c a d v w h; cases d <;> exact h) ?_; unfold o_emendateref35_same_6
      repeat (refine wpF_h rfl rfl (fun K hK => ?_); go_simp; refine hK _ _ ?_; clear hK K)
      refine wpF_nil ?_
      go_wp2_with fail
      exact ⟨⟨j + 1, by omega, by go_num, HFF.out.drew⟩, by simp [intOf]; omega⟩
    · go_wp2_with fail
      go_ret
      exact ⟨rfl, hF⟩
end Go.Proofs.Ytagmpbgidooibaa
