/-
  Validity of a normal grammar and of prices, as the reference has it; what is small.
-/
import Derived.Test.YtleapckcihcpaaaN3
namespace Go.Proofs.Ytleapckcihcpaaa
open Go.RowKit PK
attribute [local go_sem] Oper.lit Oper.litS fut_fut fut_drew World.cell?_alloc_some
set_option maxHeartbeats 12800000 in
set_option maxRecDepth 8000 in
theorem rnvalid_any (T N st : Int) (A : Option Addr) (n c : Nat) (rs : List NR) (w : World) (hl : rs.length = n) (hn : n ≤ maxLen) (hR : RdN w A rs) :
    Calls Try.prog 20 #[nmv T N st A n c] w fun e w' => e = .returned (.bool (validN T N st rs)) ∧ Below w.heap.size w w' := by
  have hn' : n ≤ 9223372036854775807 := hn
  have HL := Lib.hid hl
  have HF := Lib.hid ((Fut.refl w).alloc (.cells #[.int .i64 T, .int .i64 N, .int .i64 st, .slice A n c] 24))
  have HBB := Lib.hid (show Blk (w.alloc (.cells #[.int .i64 T, .int .i64 N, .int .i64 st, .slice A n c] 24)) w.heap.size 24 #[.int .i64 T, .int .i64 N, .int .i64 st, .slice A n c] from heap_new' _ _ _ rfl)
  have HR := Lib.hid (hR.fut HF.out)
  clear hl hn hR
  by_cases hh : 0 ≤ T ∧ T ≤ 120 ∧ 1 ≤ N ∧ N ≤ 1000 ∧ 0 ≤ st ∧ st < N ∧ n ≤ 600
  · have HAV := Lib.hid (head_in HL.out hh)
    obtain ⟨h1, h2, h3, h4, h5, h6, h7⟩ := hh
    have x1 : (T < 0) = False := eq_false (by omega)
    have x2 : (120 < T) = False := eq_false (by omega)
    have x3 : (N < 1) = False := eq_false (by omega)
    have x4 : (1000 < N) = False := eq_false (by omega)
    have x5 : (st < 0) = False := eq_false (by omega)
    have x6 : (N ≤ st) = False := eq_false (by omega)
    have x7 : ((600 : Int) < (n : Int)) = False := eq_false (by omega)
    clear h1 h2 h3 h4 h5 h6 h7
    go_enter Try.func20, Try.ntmps20
    go_wp2_with fail
    clear x1 x2 x3 x4 x5 x6 x7
    generalize w.alloc (.cells #[.int .i64 T, .int .i64 N, .int .i64 st, .slice A n c] 24) = wb at *
    go_loopw [3] (fun i wr => ∃ j : Nat, j ≤ n ∧ i = .int .i64 j ∧ Hid ((rs.take j).all (okN T N) = true) ∧ Hid (Fut wb wr)) (fun i _ => n - (intOf i).toNat)
    case atStart => exact ⟨0, Nat.zero_le _, rfl, Lib.hid (by simp), Lib.hid (Fut.refl _)⟩
    case round =>
      obtain ⟨j, hj, rfl, hall, hF⟩ := hrel
      have q0 := (HBB.out.fut hF.out).cell (i := 0) rfl
      have q1 := (HBB.out.fut hF.out).cell (i := 1) rfl
      have q3 := (HBB.out.fut hF.out).cell (i := 3) rfl
      by_cases hlt : j < n
      · obtain ⟨x, hx⟩ := get_lt HL.out hlt
        obtain ⟨b0, o0, rfl, hc⟩ := HR.out j x hx
        have c0 := hF.out.cell (hc 0 _ (by decide) rfl)
        have c1 := hF.out.cell (hc 1 _ (by decide) rfl)
        have c2 := hF.out.cell (hc 2 _ (by decide) rfl)
        have c3 := hF.out.cell (hc 3 _ (by decide) rfl)
        have c4 := hF.out.cell (hc 4 _ (by decide) rfl)
        have c5 := hF.out.cell (hc 5 _ (by decide) rfl)
        simp only [Nat.add_zero] at c0
        have HX := Lib.hid hx
        clear hx hc
        obtain ⟨kd, h, a, b, p, o⟩ := x
        simp only at c0 c1 c2 c3 c4 c5
        by_cases hp : 0 ≤ h ∧ h < N ∧ 0 ≤ p ∧ p ≤ 1000 ∧ -1 ≤ o
        · have HA0 := Lib.hid (show okN T N ⟨kd, h, a, b, p, o⟩ = bodyN T N ⟨kd, h, a, b, p, o⟩ from by simp [okN, inN, hp.1, hp.2.1, hp.2.2.1, hp.2.2.2.1, hp.2.2.2.2])
          obtain ⟨h1, h2, p1, p2, p3⟩ := hp
          have x1 : (h < 0) = False := eq_false (by omega)
          have x2 : (N ≤ h) = False := eq_false (by omega)
          have x3 : (p < 0) = False := eq_false (by omega)
          have x4 : (1000 < p) = False := eq_false (by omega)
          have x5 : (o < -1) = False := eq_false (by omega)
          clear h1 h2 p1 p2 p3
          by_cases k1 : kd = 1
          · subst k1
            have HA := HA0
            go_wp2_with fail
            all_goals first
              | exact ⟨⟨j + 1, by omega, by go_num, Lib.hid (take_all hall.out HX.out (by rw [HA.out]; simp [bodyN, inN]; try simp_all; try omega)), Lib.hid (hF.out.alloc _)⟩, by simp [intOf]; omega⟩
              | (go_ret; exact ⟨by rw [HAV.out, all_not HX.out (by rw [HA.out]; simp [bodyN, inN]; try simp_all; try omega)]; rfl, HF.out.trans (hF.out.alloc _)⟩)
          · by_cases k2 : kd = 2
            · subst k2
              have HA := HA0
              go_wp2_with fail
              all_goals first
                | exact ⟨⟨j + 1, by omega, by go_num, Lib.hid (take_all hall.out HX.out (by rw [HA.out]; simp [bodyN, inN]; try simp_all; try omega)), Lib.hid (hF.out.alloc _)⟩, by simp [intOf]; omega⟩
                | (go_ret; exact ⟨by rw [HAV.out, all_not HX.out (by rw [HA.out]; simp [bodyN, inN]; try simp_all; try omega)]; rfl, HF.out.trans (hF.out.alloc _)⟩)
            · by_cases k3 : kd = 3
              · subst k3
                have HA := HA0
                go_wp2_with fail
                all_goals first
                  | exact ⟨⟨j + 1, by omega, by go_num, Lib.hid (take_all hall.out HX.out (by rw [HA.out]; simp [bodyN, inN]; try simp_all; try omega)), Lib.hid (hF.out.alloc _)⟩, by simp [intOf]; omega⟩
                  | (go_ret; exact ⟨by rw [HAV.out, all_not HX.out (by rw [HA.out]; simp [bodyN, inN]; try simp_all; try omega)]; rfl, HF.out.trans (hF.out.alloc _)⟩)
              · by_cases k4 : kd = 4
                · subst k4
                  have HA := HA0
                  go_wp2_with fail
                  all_goals first
                    | exact ⟨⟨j + 1, by omega, by go_num, Lib.hid (take_all hall.out HX.out (by rw [HA.out]; simp [bodyN, inN]; try simp_all; try omega)), Lib.hid (hF.out.alloc _)⟩, by simp [intOf]; omega⟩
                    | (go_ret; exact ⟨by rw [HAV.out, all_not HX.out (by rw [HA.out]; simp [bodyN, inN]; try simp_all; try omega)]; rfl, HF.out.trans (hF.out.alloc _)⟩)
                · have HA := Lib.hid (show okN T N ⟨kd, h, a, b, p, o⟩ = false from by rw [HA0.out]; simp [bodyN, k1, k2, k3, k4])
                  obtain ⟨y1, y2, y3⟩ := cmpF_no k1
                  obtain ⟨y4, y5, y6⟩ := cmpF_no k2
                  obtain ⟨y7, y8, y9⟩ := cmpF_no k3
                  obtain ⟨z1, z2, z3⟩ := cmpF_no k4
                  clear k1 k2 k3 k4
                  go_wp2_with fail
                  go_ret
                  exact ⟨by rw [HAV.out, all_not HX.out HA.out]; rfl, HF.out.trans (hF.out.alloc _)⟩
        · have HA := Lib.hid (show okN T N ⟨kd, h, a, b, p, o⟩ = false from by
            cases hx : okN T N ⟨kd, h, a, b, p, o⟩ with
            | false => rfl
            | true =>
              simp only [okN, inN, Bool.and_eq_true, decide_eq_true_eq] at hx
              exact absurd ⟨hx.1.1.1.1.1, hx.1.1.1.1.2, hx.1.1.1.2, hx.1.1.2, hx.1.2⟩ hp)
          have hg : h < 0 ∨ (¬ h < 0 ∧ N ≤ h) ∨ (¬ h < 0 ∧ ¬ N ≤ h ∧ p < 0) ∨ (¬ h < 0 ∧ ¬ N ≤ h ∧ ¬ p < 0 ∧ 1000 < p) ∨ (¬ h < 0 ∧ ¬ N ≤ h ∧ ¬ p < 0 ∧ ¬ 1000 < p ∧ o < -1) := by omega
          clear hp
          rcases hg with g1 | ⟨g1, g2⟩ | ⟨g1, g2, g3⟩ | ⟨g1, g2, g3, g4⟩ | ⟨g1, g2, g3, g4, g5⟩
          all_goals
            go_wp2_with fail
            go_ret
            exact ⟨by rw [HAV.out, all_not HX.out HA.out]; rfl, HF.out.trans (hF.out.alloc _)⟩
      · have HFin := Lib.hid (all_take hall.out (by rw [HL.out]; omega))
        go_wp2_with fail
        go_ret
        exact ⟨by rw [HAV.out, HFin.out]; rfl, HF.out.trans hF.out⟩
  · have HA := Lib.hid (head_out HL.out hh)
    have hg : T < 0 ∨ (¬ T < 0 ∧ 120 < T) ∨ (¬ T < 0 ∧ ¬ 120 < T ∧ N < 1) ∨ (¬ T < 0 ∧ ¬ 120 < T ∧ ¬ N < 1 ∧ 1000 < N) ∨ (¬ T < 0 ∧ ¬ 120 < T ∧ ¬ N < 1 ∧ ¬ 1000 < N ∧ st < 0) ∨ (¬ T < 0 ∧ ¬ 120 < T ∧ ¬ N < 1 ∧ ¬ 1000 < N ∧ ¬ st < 0 ∧ N ≤ st) ∨ (¬ T < 0 ∧ ¬ 120 < T ∧ ¬ N < 1 ∧ ¬ 1000 < N ∧ ¬ st < 0 ∧ ¬ N ≤ st ∧ (600 : Int) < n) := by omega
    clear hh
    rcases hg with g1 | ⟨g1, g2⟩ | ⟨g1, g2, g3⟩ | ⟨g1, g2, g3, g4⟩ | ⟨g1, g2, g3, g4, g5⟩ | ⟨g1, g2, g3, g4, g5, g6⟩ | ⟨g1, g2, g3, g4, g5, g6, g7⟩
    all_goals
      go_enter Try.func20, Try.ntmps20
      go_wp2_with fail
      go_ret
      exact ⟨by rw [HA.out]; rfl, HF.out⟩
theorem pricesB_len {T : Int} {ins : List Int} {m : Nat} (hl : ins.length = m) (h : ¬ (m : Int) = T) : pricesB T ins = false := by
  simp [pricesB, hl, h]
theorem pricesB_all {T : Int} {ins : List Int} {m : Nat} (hl : ins.length = m) (h : (m : Int) = T) : pricesB T ins = ins.all okP := by
  simp [pricesB, hl, h]
set_option maxHeartbeats 3200000 in
theorem rprices_any (T N st : Int) (A : Option Addr) (n c : Nat) (B : Option Addr) (m d : Nat) (ins : List Int) (w : World) (hl : ins.length = m) (hm : m ≤ maxLen) (hI : Rd1 w B (.int .i64 ·) ins) :
    Calls Try.prog 21 #[nmv T N st A n c, .slice B m d] w fun e w' => e = .returned (.bool (pricesB T ins)) ∧ Below w.heap.size w w' := by
  have hm' : m ≤ 9223372036854775807 := hm
  have HL := Lib.hid hl
  have HF := Lib.hid ((Fut.refl w).alloc (.cells #[.int .i64 T, .int .i64 N, .int .i64 st, .slice A n c] 24))
  have HI := Lib.hid (hI.fut HF.out)
  clear hl hm hI
  by_cases hT : (m : Int) = T
  · subst hT
    have HA := Lib.hid (pricesB_all (T := (m : Int)) HL.out rfl)
    go_enter Try.func21, Try.ntmps21
    go_wp2_with fail
    generalize w.alloc (.cells #[.int .i64 (m : Int), .int .i64 N, .int .i64 st, .slice A n c] 24) = wb at *
    go_loopw [5] (fun i wr => ∃ j : Nat, j ≤ m ∧ i = .int .i64 j ∧ Hid ((ins.take j).all okP = true) ∧ wr = wb) (fun i _ => m - (intOf i).toNat)
    case atStart => exact ⟨0, Nat.zero_le _, rfl, Lib.hid (by simp), rfl⟩
    case round =>
      obtain ⟨j, hj, rfl, hall, hw⟩ := hrel
      subst hw
      by_cases hlt : j < m
      · obtain ⟨x, hx⟩ := get_lt HL.out hlt
        obtain ⟨b0, o0, rfl, hc⟩ := HI.out j x hx
        have HX := Lib.hid hx
        clear hx
        by_cases h1 : x < 1
        · go_wp2_with fail
          go_ret
          exact ⟨by rw [HA.out, all_not HX.out (by simp [okP]; omega)]; rfl, HF.out⟩
        · by_cases h2 : 60000 < x
          · go_wp2_with fail
            go_ret
            exact ⟨by rw [HA.out, all_not HX.out (by simp [okP]; omega)]; rfl, HF.out⟩
          · go_wp2_with fail
            exact ⟨⟨j + 1, by omega, by go_num, Lib.hid (take_all hall.out HX.out (by simp [okP]; omega)), by first | rfl | trivial⟩, by simp [intOf]; omega⟩
      · have HFin := Lib.hid (all_take hall.out (by rw [HL.out]; omega))
        go_wp2_with fail
        go_ret
        exact ⟨by rw [HA.out, HFin.out]; rfl, HF.out⟩
  · have HA := Lib.hid (pricesB_len HL.out hT)
    obtain ⟨x1, x2, x3⟩ := cmpF_no hT
    clear hT
    go_enter Try.func21, Try.ntmps21
    go_wp2_with fail
    go_ret
    exact ⟨by rw [HA.out]; rfl, HF.out⟩
def smallN (N : Int) (n m : Nat) : Bool := decide (n ≤ 60) && decide (N ≤ 60) && decide (m ≤ 30)
theorem smallN_parts {N : Int} {n m : Nat} (h : smallN N n m = true) : n ≤ 60 ∧ N ≤ 60 ∧ m ≤ 30 := by
  simp only [smallN, Bool.and_eq_true, decide_eq_true_eq] at h
  exact ⟨h.1.1, h.1.2, h.2⟩
theorem smallN_any (T N st : Int) (A : Option Addr) (n c : Nat) (B : Option Addr) (m d : Nat) (w : World) (hn : n ≤ maxLen) (hm : m ≤ maxLen) :
    Calls Try.prog 9 #[nmv T N st A n c, .slice B m d] w fun e w' => e = .returned (.bool (smallN N n m)) ∧ Below w.heap.size w w' := by
  have hn' : n ≤ 9223372036854775807 := hn
  have hm' : m ≤ 9223372036854775807 := hm
  have HF := Lib.hid ((Fut.refl w).alloc (.cells #[.int .i64 T, .int .i64 N, .int .i64 st, .slice A n c] 24))
  clear hn hm
  by_cases h1 : n ≤ 60
  · by_cases h2 : N ≤ 60
    · by_cases h3 : m ≤ 30
      · have HA := Lib.hid (show smallN N n m = true from by simp [smallN, h1, h2, h3])
        have x1 : ((n : Int) ≤ 60) = True := eq_true (by omega)
        have x3 : ((m : Int) ≤ 30) = True := eq_true (by omega)
        go_enter Try.func9, Try.ntmps9
        go_wp2_with fail
        go_ret
        exact ⟨by rw [HA.out]; rfl, HF.out⟩
      · have HA := Lib.hid (show smallN N n m = false from by simp [smallN, h3])
        have x1 : ((n : Int) ≤ 60) = True := eq_true (by omega)
        have x3 : ((m : Int) ≤ 30) = False := eq_false (by omega)
        go_enter Try.func9, Try.ntmps9
        go_wp2_with fail
        go_ret
        exact ⟨by rw [HA.out]; rfl, HF.out⟩
    · have HA := Lib.hid (show smallN N n m = false from by simp [smallN, h2])
      have x1 : ((n : Int) ≤ 60) = True := eq_true (by omega)
      go_enter Try.func9, Try.ntmps9
      go_wp2_with fail
      go_ret
      exact ⟨by rw [HA.out]; rfl, HF.out⟩
  · have HA := Lib.hid (show smallN N n m = false from by simp [smallN, h1])
    have x1 : ((n : Int) ≤ 60) = False := eq_false (by omega)
    go_enter Try.func9, Try.ntmps9
    go_wp2_with fail
    go_ret
    exact ⟨by rw [HA.out]; rfl, HF.out⟩
end Go.Proofs.Ytleapckcihcpaaa
