/-
  Valid of the reference, Small.
-/
import Derived.Test.YtfaekfonemobcaaKval
namespace Go.Proofs.Ytfaekfonemobcaa
open Go.RowKit
attribute [local go_sem] Oper.lit Oper.litS fut_fut fut_drew World.cell?_alloc_some
set_option maxHeartbeats 6400000 in
theorem rValid_any (N : Int) (A : Option Addr) (n c : Nat) (es : List EI) (w : World) (hl : es.length = n) (hn : n ≤ maxLen) (hR : RdE w A es) :
    Calls Try.prog 19 #[hv N A n c] w fun e w' => e = .returned (.bool (validB N es)) ∧ Below w.heap.size w w' := by
  have hn' : n ≤ 9223372036854775807 := hn
  have HR := Lib.hid hR
  have HL := Lib.hid hl
  clear hR hl hn
  by_cases hN : 1 ≤ N ∧ N ≤ 1048576
  · obtain ⟨hN1, hN2⟩ := hN
    have q0 : ∀ dd os, (fut (w.alloc (.cells #[.int .i64 N, .slice A n c] 24)) dd os).cell? ⟨w.heap.size, 0, none⟩ = some (.int .i64 N) := cell_fut (by (repeat (first | exact (cell_al_new _ _ _ _ _ _ (by first | rfl | (simp only [World.size_alloc]))).trans rfl | refine (cell_al_old _ _ _ (by first | omega | (simp only [World.size_alloc]; omega))).trans ?_)))
    have q1 : ∀ dd os, (fut (w.alloc (.cells #[.int .i64 N, .slice A n c] 24)) dd os).cell? ⟨w.heap.size, 1, none⟩ = some (.slice A n c) := cell_fut (by (repeat (first | exact (cell_al_new _ _ _ _ _ _ (by first | rfl | (simp only [World.size_alloc]))).trans rfl | refine (cell_al_old _ _ _ (by first | omega | (simp only [World.size_alloc]; omega))).trans ?_)))
    go_enter Try.func19, Try.ntmps19
    go_wp2_with fail
    have HS := Lib.hid (HR.out.fut ((Fut.refl w).alloc (.cells #[.int .i64 N, .slice A n c] 24)))
    have HW := Lib.hid ((Fut.refl w).alloc (.cells #[.int .i64 N, .slice A n c] 24))
    generalize w.alloc (.cells #[.int .i64 N, .slice A n c] 24) = wb at *
    go_loopw [3] (fun i wr => ∃ j : Nat, j ≤ n ∧ i = .int .i64 j ∧ Hid ((es.take j).all (okE N) = true) ∧ Fut wb wr) (fun i _ => n - (intOf i).toNat)
    case atStart => exact ⟨0, Nat.zero_le _, rfl, Lib.hid (by simp), Fut.refl _⟩
    case round =>
      obtain ⟨j, hj, rfl, hall, hF⟩ := hrel
      obtain ⟨dd, oo, rfl⟩ := fut_of hF
      by_cases hlt : j < n
      · obtain ⟨x, hx⟩ := get_lt HL.out hlt
        obtain ⟨b, o, rfl, hc⟩ := HS.out.1 j x hx
        obtain ⟨ht, htl⟩ := (HS.out.2 x (List.mem_of_getElem? hx))
        have HT := Lib.hid (ht.fut hF)
        have HX := Lib.hid hx
        obtain ⟨xh, xt, xc, xl0, xl1, xA, xk⟩ := x
        have c0 := hF.cell (hc 0 _ (by decide) rfl)
        have c1 := hF.cell (hc 1 _ (by decide) rfl)
        have c2 := hF.cell (hc 2 _ (by decide) rfl)
        have c3 := hF.cell (hc 3 _ (by decide) rfl)
        have c4 := hF.cell (hc 4 _ (by decide) rfl)
        simp only [Nat.add_zero] at c0
        clear hx hc ht hF
        by_cases g1 : (0 ≤ xh ∧ xh < N) ∧ 0 ≤ xc ∧ xc ≤ 1099511627776
        · obtain ⟨⟨g1, g1'⟩, g2, g3⟩ := g1
          have HO : ∀ b : Bool, xt.all (inB' N) = b → Hid (okE N ⟨xh, xt, xc, xl0, xl1, xA, xk⟩ = b) := fun b hb => Lib.hid (by simp [okE, inB', g1, g1', g2, g3] at hb ⊢; exact hb)
          have HOO := Lib.hid HO
          clear HO
          have htl' : xt.length ≤ 9223372036854775807 := htl
          go_wp2_with fail
          have HT2 := Lib.hid (HT.out.fut ((Fut.refl _).alloc (.cells #[.int .i64 xh, .slice xA xt.length xk, .int .i64 xc, .int .i64 xl0, .int .i64 xl1] 49)))
          have HF2 := Lib.hid ((Fut.fut wb dd oo).alloc (.cells #[.int .i64 xh, .slice xA xt.length xk, .int .i64 xc, .int .i64 xl0, .int .i64 xl1] 49))
          have hN0 : ((fut wb dd oo).alloc (.cells #[.int .i64 xh, .slice xA xt.length xk, .int .i64 xc, .int .i64 xl0, .int .i64 xl1] 49)).cell? ⟨w.heap.size, 0, none⟩ = some (.int .i64 N) := Fut.cell ((Fut.refl _).alloc _) (q0 dd oo)
          have hT1 : ((fut wb dd oo).alloc (.cells #[.int .i64 xh, .slice xA xt.length xk, .int .i64 xc, .int .i64 xl0, .int .i64 xl1] 49)).cell? ⟨(fut wb dd oo).heap.size, 1, none⟩ = some (.slice xA xt.length xk) := by (repeat (first | exact (cell_al_new _ _ _ _ _ _ (by first | rfl | (simp only [World.size_alloc]))).trans rfl | refine (cell_al_old _ _ _ (by first | omega | (simp only [World.size_alloc]; omega))).trans ?_))
          have hq1 : ((fut wb dd oo).alloc (.cells #[.int .i64 xh, .slice xA xt.length xk, .int .i64 xc, .int .i64 xl0, .int .i64 xl1] 49)).cell? ⟨w.heap.size, 1, none⟩ = some (.slice (some ⟨b, o, none⟩) n c) := Fut.cell ((Fut.refl _).alloc _) (q1 dd oo)
          clear c0 c1 c2 c3 c4
          generalize (fut wb dd oo).alloc (.cells #[.int .i64 xh, .slice xA xt.length xk, .int .i64 xc, .int .i64 xl0, .int .i64 xl1] 49) = wi at *
          go_loopw [5] (fun i wr => ∃ k : Nat, k ≤ xt.length ∧ i = .int .i64 k ∧ Hid ((xt.take k).all (inB' N) = true) ∧ Fut wi wr) (fun i _ => xt.length - (intOf i).toNat)
          case atStart => exact ⟨0, Nat.zero_le _, rfl, Lib.hid (by simp), Fut.refl _⟩
          case round =>
            obtain ⟨k, hk, rfl, hall2, hFi⟩ := hrel
            obtain ⟨d2, o2, rfl⟩ := fut_of hFi
            have r1 : ∀ d3 os, (fut wi d3 os).cell? ⟨(fut wb dd oo).heap.size, 1, none⟩ = some (.slice xA xt.length xk) := cell_fut hT1
            have r0 : ∀ dd os, (fut wi dd os).cell? ⟨w.heap.size, 0, none⟩ = some (.int .i64 N) := cell_fut hN0
            by_cases hkt : k < xt.length
            · obtain ⟨y, hy⟩ := get_lt rfl hkt
              obtain ⟨b2, o3, rfl, hc2⟩ := HT2.out k y hy
              have r2 : ∀ dd os, (fut wi dd os).cell? ⟨b2, o3 + k, none⟩ = some (.int .i64 y) := cell_fut hc2
              have HY := Lib.hid hy
              have HFI := Lib.hid hFi
              clear hy hc2 hFi
              by_cases y1 : 0 ≤ y
              · by_cases y2 : y < N
                · have HOK := Lib.hid (take_all hall2.out HY.out (show inB' N y = true from by simp [inB', y1, y2]))
                  have g4 : (y < 0) = False := eq_false (by omega)
                  have g5 : (N ≤ y) = False := eq_false (by omega)
                  go_wp2_with fail
                  refine wp_region_M o_emendateref27_Valid_12 (by kernel_rfl) (by kernel_rfl) (by intro c a d v w h; cases d <;> exact h) ?_; unfold o_emendateref27_Valid_12
                  iterate 16 (refine wpF_h rfl rfl (fun K hK => ?_); go_simp; refine hK _ _ ?_; clear hK K)
                  refine wpF_nil ?_
                  go_wp2_with fail
                  exact ⟨⟨k + 1, by omega, by go_num, HOK, HFI.out.drew⟩, by simp [intOf]; omega⟩
                · have hfin : validB N es = false := by
                    have h1 := all_not HX.out (HOO.out false (all_not HY.out (by simp [inB', y2]))).out
                    simp [validB, h1]
                  have HFin := Lib.hid hfin
                  have g4 : (y < 0) = False := eq_false (by omega)
                  have g5 : (N ≤ y) = True := eq_true (by omega)
                  clear hfin
                  go_wp2_with fail
                  refine wp_region_M o_emendateref27_Valid_12 (by kernel_rfl) (by kernel_rfl) (by intro c a d v w h; cases d <;> exact h) ?_; unfold o_emendateref27_Valid_12
                  iterate 16 (refine wpF_h rfl rfl (fun K hK => ?_); go_simp; refine hK _ _ ?_; clear hK K)
                  refine wpF_nil ?_
                  go_wp2_with fail
                  go_ret
                  exact ⟨by rw [HFin.out]; rfl, HW.out.trans (HF2.out.trans HFI.out.drew)⟩
              · have hfin : validB N es = false := by
                  have h1 := all_not HX.out (HOO.out false (all_not HY.out (by simp [inB', y1]))).out
                  simp [validB, h1]
                have HFin := Lib.hid hfin
                have g4 : (y < 0) = True := eq_true (by omega)
                clear hfin
                go_wp2_with fail
                refine wp_region_M o_emendateref27_Valid_12 (by kernel_rfl) (by kernel_rfl) (by intro c a d v w h; cases d <;> exact h) ?_; unfold o_emendateref27_Valid_12
                iterate 7 (refine wpF_h rfl rfl (fun K hK => ?_); go_simp; refine hK _ _ ?_; clear hK K)
                iterate 8 (refine wpF_hs2 rfl rfl (fun K hK => ?_); go_simp; refine hK _ _ ?_; clear hK K)
                (refine wpF_h rfl rfl (fun K hK => ?_); go_simp; refine hK _ _ ?_; clear hK K)
                refine wpF_nil ?_
                go_wp2_with fail
                go_ret
                exact ⟨by rw [HFin.out]; rfl, HW.out.trans (HF2.out.trans HFI.out.drew)⟩
            · have hok := (HOO.out true (all_take hall2.out (by omega))).out
              have HK := Lib.hid (take_all hall.out HX.out hok)
              clear hok
              go_wp2_with fail
              exact ⟨⟨j + 1, by omega, by go_num, HK, HF2.out.trans (Fut.fut _ _ _)⟩, by simp [intOf]; omega⟩
        · have hfin : validB N es = false := by
            have h1 : okE N ⟨xh, xt, xc, xl0, xl1, xA, xk⟩ = false := by
              cases h : okE N ⟨xh, xt, xc, xl0, xl1, xA, xk⟩ with
              | false => rfl
              | true => exact absurd (by simp [okE, inB'] at h; exact ⟨h.1.1.1, h.1.1.2, h.1.2⟩) g1
            simp [validB, all_not HX.out h1]
          have HFin := Lib.hid hfin
          clear hfin
          have hg : xh < 0 ∨ (0 ≤ xh ∧ N ≤ xh) ∨ (0 ≤ xh ∧ xh < N ∧ xc < 0) ∨ (0 ≤ xh ∧ xh < N ∧ 0 ≤ xc ∧ 1099511627776 < xc) := by omega
          clear g1
          rcases hg with g1 | ⟨g1, g2⟩ | ⟨g1, g2, g3⟩ | ⟨g1, g2, g3, g4⟩
          all_goals
            go_wp2_with fail
            go_ret
            exact ⟨by rw [HFin.out]; rfl, HW.out.trans ((Fut.fut _ _ _).alloc _)⟩
      · have hfin : validB N es = true := by
          have h1 := all_take hall.out (by rw [HL.out]; omega)
          simp [validB, h1, hN1, hN2]
        have HFin := Lib.hid hfin
        clear hfin
        go_wp2_with fail
        go_ret
        exact ⟨by rw [HFin.out]; rfl, HW.out.trans (Fut.fut _ _ _)⟩
  · have hvb : validB N es = false := by
      unfold validB
      by_cases h1 : 1 ≤ N
      · have : ¬ N ≤ 1048576 := fun h => hN ⟨h1, h⟩
        simp [this]
      · simp [h1]
    have HVb := Lib.hid hvb
    clear hvb
    by_cases h1 : 1 ≤ N
    · have h2 : 1048576 < N := by omega
      clear hN
      go_enter Try.func19, Try.ntmps19
      go_wp2_with fail
      go_ret
      exact ⟨by rw [HVb.out]; rfl, (Fut.refl w).alloc _⟩
    · have h2 : N < 1 := by omega
      clear hN h1
      go_enter Try.func19, Try.ntmps19
      go_wp2_with fail
      go_ret
      exact ⟨by rw [HVb.out]; rfl, (Fut.refl w).alloc _⟩
set_option maxHeartbeats 3200000 in
theorem small_any (N : Int) (A : Option Addr) (n c : Nat) (es : List EI) (w : World) (hl : es.length = n) (hn : n ≤ maxLen) (hR : RdE w A es) :
    Calls Try.prog 30 #[hv N A n c] w fun e w' => e = .returned (.bool (smallB N es)) ∧ Below w.heap.size w w' := by
  have hn' : n ≤ 9223372036854775807 := hn
  have HN := Lib.hid hn
  have HR := Lib.hid hR
  have HL := Lib.hid hl
  clear hR hl hn
  by_cases hN : N ≤ 30 ∧ n ≤ 60
  · obtain ⟨hN1, hN2⟩ := hN
    have x0 : (w.alloc (.cells #[.int .i64 N, .slice A n c] 24)).cell? ⟨w.heap.size, 0, none⟩ = some (.int .i64 N) := by (repeat (first | exact (cell_al_new _ _ _ _ _ _ (by first | rfl | (simp only [World.size_alloc]))).trans rfl | refine (cell_al_old _ _ _ (by first | omega | (simp only [World.size_alloc]; omega))).trans ?_))
    have x1 : (w.alloc (.cells #[.int .i64 N, .slice A n c] 24)).cell? ⟨w.heap.size, 1, none⟩ = some (.slice A n c) := by (repeat (first | exact (cell_al_new _ _ _ _ _ _ (by first | rfl | (simp only [World.size_alloc]))).trans rfl | refine (cell_al_old _ _ _ (by first | omega | (simp only [World.size_alloc]; omega))).trans ?_))
    go_enter Try.func30, Try.ntmps30
    go_wp2_with fail
    have HS := Lib.hid (HR.out.fut ((Fut.refl w).alloc (.cells #[.int .i64 N, .slice A n c] 24)))
    have HW := Lib.hid ((Fut.refl w).alloc (.cells #[.int .i64 N, .slice A n c] 24))
    generalize w.alloc (.cells #[.int .i64 N, .slice A n c] 24) = wb at *
    go_loopw [3] (fun i wr => ∃ j : Nat, j ≤ n ∧ i = .int .i64 j ∧ Hid ((es.take j).all (fun e => decide (e.t.length ≤ 4)) = true) ∧ wr = wb) (fun i _ => n - (intOf i).toNat)
    case atStart => exact ⟨0, Nat.zero_le _, rfl, Lib.hid (by simp), rfl⟩
    case round =>
      obtain ⟨j, hj, rfl, hall, rfl⟩ := hrel
      by_cases hlt : j < n
      · obtain ⟨x, hx⟩ := get_lt HL.out hlt
        obtain ⟨b, o, rfl, hc⟩ := HS.out.1 j x hx
        have hxl : x.t.length ≤ 9223372036854775807 := (HS.out.2 x (List.mem_of_getElem? hx)).2
        have HX := Lib.hid hx
        have c1 := hc 1 _ (by decide) rfl
        clear hx hc
        obtain ⟨xh, xt, xc, xl0, xl1, xA, xk⟩ := x
        simp only at c1 hxl
        by_cases h4 : xt.length ≤ 4
        · have HOK := Lib.hid (take_all hall.out HX.out (show decide (xt.length ≤ 4) = true from decide_eq_true h4))
          go_wp2_with fail
          exact ⟨⟨j + 1, by omega, by go_num, HOK, by first | rfl | trivial⟩, by simp [intOf]; omega⟩
        · have hfin : smallB N es = false := by
            have h1 := all_not (p := fun e : EI => decide (e.t.length ≤ 4)) HX.out (decide_eq_false h4)
            unfold smallB
            rw [h1]; simp
          have HFin := Lib.hid hfin
          clear hfin
          go_wp2_with fail
          go_ret
          exact ⟨by rw [HFin.out]; rfl, HW.out⟩
      · have hfin : smallB N es = validB N es := by
          have h1 := all_take hall.out (by rw [HL.out]; omega)
          unfold smallB
          rw [h1, HL.out]; simp [hN1, hN2]
        have HFin := Lib.hid hfin
        clear hfin
        go_wp2_with (go_at_call 19; refine (rValid_any N A n c es _ HL.out HN.out HS.out).mono ?_; rintro e w1 ⟨rfl, hb1⟩; have f1 : Fut _ w1 := hb1; clear hb1)
        go_ret
        exact ⟨by rw [HFin.out]; rfl, HW.out.trans (by assumption)⟩
  · have hvb : smallB N es = false := by
      unfold smallB
      rw [HL.out]
      by_cases h1 : N ≤ 30
      · have : ¬ n ≤ 60 := fun h => hN ⟨h1, h⟩
        simp [this]
      · simp [h1]
    have HVb := Lib.hid hvb
    clear hvb
    by_cases h1 : N ≤ 30
    · have h2 : 60 < n := by omega
      clear hN
      go_enter Try.func30, Try.ntmps30
      go_wp2_with fail
      go_ret
      exact ⟨by rw [HVb.out]; rfl, (Fut.refl w).alloc _⟩
    · have h2 : 30 < N := by omega
      clear hN h1
      go_enter Try.func30, Try.ntmps30
      go_wp2_with fail
      go_ret
      exact ⟨by rw [HVb.out]; rfl, (Fut.refl w).alloc _⟩
end Go.Proofs.Ytfaekfonemobcaa
