/-
  Valid, as the program and as the reference have it; Small.
-/
import Derived.Test.YtleapckcihcpaaaKyp
namespace Go.Proofs.Ytleapckcihcpaaa
open Go.RowKit
attribute [local go_sem] Oper.lit fut_fut fut_drew World.cell?_alloc_some
theorem in_any (N x : Int) (b : Nat) (w : World) (hc : w.cell? ⟨b, 0, none⟩ = some (.int .i64 N)) :
    Calls Try.prog 55 #[.int .i64 x, .pointer (some ⟨b, 0, none⟩)] w fun e w' => e = .returned (.bool (inB' N x)) ∧ w' = w := by
  go_enter Try.func55, Try.ntmps55
  go_wp2
  all_goals
    go_returns
    refine ⟨?_, rfl⟩
    first | rfl | (simp_all [inB']; try omega)

set_option maxHeartbeats 3200000 in
theorem valid_any (N : Int) (A : Option Addr) (n c : Nat) (es : List EI) (w : World) (hl : es.length = n) (hn : n ≤ maxLen) (hR : RdE w A es) :
    Calls Try.prog 46 #[hv N A n c] w fun e w' => e = .returned (.bool (validB N es)) ∧ Below w.heap.size w w' := by
  have hn' : n ≤ 9223372036854775807 := hn
  have HR := Lib.hid hR
  have HL := Lib.hid hl
  clear hR hl hn
  by_cases hN : 1 ≤ N ∧ N ≤ 1048576
  · obtain ⟨hN1, hN2⟩ := hN
    have q0 : ∀ dd os, (fut (w.alloc (.cells #[.int .i64 N, .slice A n c] 54)) dd os).cell? ⟨w.heap.size, 0, none⟩ = some (.int .i64 N) := cell_fut (by (repeat (first | exact (cell_al_new _ _ _ _ _ _ (by first | rfl | (simp only [World.size_alloc]))).trans rfl | refine (cell_al_old _ _ _ (by first | omega | (simp only [World.size_alloc]; omega))).trans ?_)))
    have q1 : ∀ dd os, (fut (w.alloc (.cells #[.int .i64 N, .slice A n c] 54)) dd os).cell? ⟨w.heap.size, 1, none⟩ = some (.slice A n c) := cell_fut (by (repeat (first | exact (cell_al_new _ _ _ _ _ _ (by first | rfl | (simp only [World.size_alloc]))).trans rfl | refine (cell_al_old _ _ _ (by first | omega | (simp only [World.size_alloc]; omega))).trans ?_)))
    go_enter Try.func46, Try.ntmps46
    go_wp2_with fail
    have HS := Lib.hid (HR.out.fut ((Fut.refl w).alloc (.cells #[.int .i64 N, .slice A n c] 54)))
    have HW := Lib.hid ((Fut.refl w).alloc (.cells #[.int .i64 N, .slice A n c] 54))
    generalize w.alloc (.cells #[.int .i64 N, .slice A n c] 54) = wb at *
    go_loopw [20] (fun i wr => ∃ j : Nat, j ≤ n ∧ i = .int .i64 j ∧ Hid ((es.take j).all (okE N) = true) ∧ Fut wb wr) (fun i _ => n - (intOf i).toNat)
    case atStart => exact ⟨0, Nat.zero_le _, rfl, Lib.hid (by simp), Fut.refl _⟩
    case round =>
      obtain ⟨j, hj, rfl, hall, hF⟩ := hrel
      obtain ⟨dd, oo, rfl⟩ := fut_of hF
      by_cases hlt : j < n
      · obtain ⟨x, hx⟩ := get_lt HL.out hlt
        obtain ⟨b, o, rfl, hc⟩ := HS.out.1 j x hx
        obtain ⟨ht, htl⟩ := (HS.out.2 x (List.mem_of_getElem? hx))
        have HT := Lib.hid (ht.fut hF)
        have HX := Lib.hid hx
        obtain ⟨xh, xt, xc, xl0, xl1, xA, xk⟩ := x
        have c0 := hF.cell (hc 0 _ (by decide) rfl)
        have c1 := hF.cell (hc 1 _ (by decide) rfl)
        have c2 := hF.cell (hc 2 _ (by decide) rfl)
        have c3 := hF.cell (hc 3 _ (by decide) rfl)
        have c4 := hF.cell (hc 4 _ (by decide) rfl)
        simp only [Nat.add_zero] at c0
        clear hx hc ht hF
        by_cases g1 : inB' N xh = true ∧ 0 ≤ xc ∧ xc ≤ 1099511627776
        · obtain ⟨g1, g2, g3⟩ := g1
          have HO : ∀ b : Bool, xt.all (inB' N) = b → Hid (okE N ⟨xh, xt, xc, xl0, xl1, xA, xk⟩ = b) := fun b hb => Lib.hid (by simp [okE, g1, g2, g3, hb])
          have HOO := Lib.hid HO
          clear HO
          have htl' : xt.length ≤ 9223372036854775807 := htl
          go_wp2_with (go_at_call 55; refine (in_any N _ _ _ (by first | assumption | (simp (config := {decide := false}) [go_sem, q0]; done))).mono ?_; rintro e w1 ⟨rfl, rfl⟩)
          have HT2 := Lib.hid (HT.out.fut ((Fut.refl _).alloc (.cells #[.int .i64 xh, .slice xA xt.length xk, .int .i64 xc, .int .i64 xl0, .int .i64 xl1] 59)))
          have HF2 := Lib.hid ((Fut.fut wb dd oo).alloc (.cells #[.int .i64 xh, .slice xA xt.length xk, .int .i64 xc, .int .i64 xl0, .int .i64 xl1] 59))
          clear c0 c1 c2 c3 c4
          have hN0 : ((fut wb dd oo).alloc (.cells #[.int .i64 xh, .slice xA xt.length xk, .int .i64 xc, .int .i64 xl0, .int .i64 xl1] 59)).cell? ⟨w.heap.size, 0, none⟩ = some (.int .i64 N) := Fut.cell ((Fut.refl _).alloc _) (q0 dd oo)
          generalize (fut wb dd oo).alloc (.cells #[.int .i64 xh, .slice xA xt.length xk, .int .i64 xc, .int .i64 xl0, .int .i64 xl1] 59) = wi at *
          go_loopw [42] (fun i wr => ∃ k : Nat, k ≤ xt.length ∧ i = .int .i64 k ∧ Hid ((xt.take k).all (inB' N) = true) ∧ wr = wi) (fun i _ => xt.length - (intOf i).toNat)
          case atStart => exact ⟨0, Nat.zero_le _, rfl, Lib.hid (by simp), rfl⟩
          case round =>
            obtain ⟨k, hk, rfl, hall2, rfl⟩ := hrel
            by_cases hkt : k < xt.length
            · obtain ⟨y, hy⟩ := get_lt rfl hkt
              obtain ⟨b2, o2, rfl, hc2⟩ := HT2.out k y hy
              have HY := Lib.hid hy
              clear hy
              cases hi : inB' N y
              · have hfin : validB N es = false := by
                  have h1 := all_not HX.out (HOO.out false (all_not HY.out hi)).out
                  simp [validB, h1]
                have HFin := Lib.hid hfin
                clear hfin
                go_wp2_with (go_at_call 55; refine (in_any N _ _ _ (by assumption)).mono ?_; rintro e w1 ⟨rfl, rfl⟩)
                go_ret
                exact ⟨by rw [HFin.out]; rfl, HW.out.trans HF2.out⟩
              · go_wp2_with (go_at_call 55; refine (in_any N _ _ _ (by assumption)).mono ?_; rintro e w1 ⟨rfl, rfl⟩)
                exact ⟨⟨k + 1, by omega, by go_num, Lib.hid (take_all hall2.out HY.out hi), by first | rfl | trivial⟩, by simp [intOf]; omega⟩
            · have hok := (HOO.out true (all_take hall2.out (by omega))).out
              have HK := Lib.hid (take_all hall.out HX.out hok)
              clear hok
              go_wp2_with fail
              exact ⟨⟨j + 1, by omega, by go_num, HK, HF2.out⟩, by simp [intOf]; omega⟩
        · have hfin : validB N es = false := by
            have h1 : okE N ⟨xh, xt, xc, xl0, xl1, xA, xk⟩ = false := by
              cases h : okE N ⟨xh, xt, xc, xl0, xl1, xA, xk⟩ with
              | false => rfl
              | true => exact absurd (by simp [okE] at h; exact ⟨h.1.1.1, h.1.1.2, h.1.2⟩) g1
            simp [validB, all_not HX.out h1]
          have HFin := Lib.hid hfin
          clear hfin
          have hg : inB' N xh = false ∨ (inB' N xh = true ∧ xc < 0) ∨ (inB' N xh = true ∧ 0 ≤ xc ∧ 1099511627776 < xc) := by
            cases h : inB' N xh with
            | false => exact .inl rfl
            | true =>
              by_cases h2 : 0 ≤ xc
              · exact .inr (.inr ⟨rfl, h2, by
                  have : ¬ xc ≤ 1099511627776 := fun h3 => g1 ⟨h, h2, h3⟩
                  omega⟩)
              · exact .inr (.inl ⟨rfl, by omega⟩)
          clear g1
          rcases hg with g1 | ⟨g1, g2⟩ | ⟨g1, g2, g3⟩
          all_goals
            go_wp2_with (go_at_call 55; refine (in_any N _ _ _ (by first | assumption | (simp (config := {decide := false}) [go_sem, q0]; done))).mono ?_; rintro e w1 ⟨rfl, rfl⟩)
            go_ret
            exact ⟨by rw [HFin.out]; rfl, HW.out.trans ((Fut.fut _ _ _).alloc _)⟩
      · have hfin : validB N es = true := by
          have h1 := all_take hall.out (by rw [HL.out]; omega)
          simp [validB, h1, hN1, hN2]
        have HFin := Lib.hid hfin
        clear hfin
        go_wp2_with fail
        go_ret
        exact ⟨by rw [HFin.out]; rfl, HW.out.trans (Fut.fut _ _ _)⟩
  · have hv : validB N es = false := by
      unfold validB
      by_cases h1 : 1 ≤ N
      · have : ¬ N ≤ 1048576 := fun h => hN ⟨h1, h⟩
        simp [this]
      · simp [h1]
    have HV := Lib.hid hv
    clear hv
    by_cases h1 : 1 ≤ N
    · have h2 : 1048576 < N := by omega
      clear hN
      go_enter Try.func46, Try.ntmps46
      go_wp2_with fail
      go_ret
      exact ⟨by rw [HV.out]; rfl, (Fut.refl w).alloc _⟩
    · have h2 : N < 1 := by omega
      clear hN h1
      go_enter Try.func46, Try.ntmps46
      go_wp2_with fail
      go_ret
      exact ⟨by rw [HV.out]; rfl, (Fut.refl w).alloc _⟩
end Go.Proofs.Ytleapckcihcpaaa
