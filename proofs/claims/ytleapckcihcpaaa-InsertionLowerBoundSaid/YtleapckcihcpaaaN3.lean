/-
  Validity of a normal grammar, as the program has it: the rules one by one.
-/
import Derived.Test.YtleapckcihcpaaaN2
namespace Go.Proofs.Ytleapckcihcpaaa
open Go.RowKit PK
attribute [local go_sem] Oper.lit Oper.litS fut_fut fut_drew World.cell?_alloc_some
theorem bval1_any (T N st : Int) (A : Option Addr) (n c : Nat) (b0 : Nat) (r : NR) (w : World) (hB : Blk w b0 24 #[.int .i64 T, .int .i64 N, .int .i64 st, .slice A n c]) :
    Calls Try.prog 49 #[.agg #[.int .i64 r.kd, .int .i64 r.h, .int .i64 r.a, .int .i64 r.b, .int .i64 r.p, .int .i64 r.o], .pointer (some ⟨b0, 0, none⟩)] w fun e w' => e = .returned (.bool (!okN T N r)) ∧ Below w.heap.size w w' := by
  have HC := Lib.hid (fun w' => bval_any T N st A n c r w')
  generalize okN T N r = res at *
  obtain ⟨kd, h, a, b, p, o⟩ := r
  simp only at HC ⊢
  have hF := (Fut.refl w).alloc (.cells #[.int .i64 kd, .int .i64 h, .int .i64 a, .int .i64 b, .int .i64 p, .int .i64 o] 47)
  have HF := Lib.hid hF
  have q0 := (hB.fut hF).cell (i := 0) rfl
  have q1 := (hB.fut hF).cell (i := 1) rfl
  have q2 := (hB.fut hF).cell (i := 2) rfl
  have q3 := (hB.fut hF).cell (i := 3) rfl
  clear hF hB
  go_enter Try.func49, Try.ntmps49
  go_wp2_with fail
  refine (HC.out _).mono ?_
  rintro e w1 ⟨rfl, hb⟩
  have HB := Lib.hid hb
  clear hb q0 q1 q2 q3
  go_wp2_with fail
  go_ret
  exact ⟨rfl, HF.out.trans HB.out⟩
set_option maxHeartbeats 1600000 in
theorem idxN_any (T N st : Int) (B : Option Addr) (m d : Nat) (b0 : Nat) (A : Option Addr) (n c : Nat) (rs : List NR) (w : World) (hB : Blk w b0 24 #[.int .i64 T, .int .i64 N, .int .i64 st, .slice B m d]) (hl : rs.length = n) (hn : n ≤ maxLen) (hR : RdN w A rs) :
    Calls Try.prog 56 #[.slice A n c, .func (.func 49) #[] #[.pointer (some ⟨b0, 0, none⟩)]] w fun e w' => (∃ i : Int, e = .returned (.int .i64 i) ∧ decide (0 ≤ i) = !(rs.all (okN T N))) ∧ Below w.heap.size w w' := by
  have hn' : n ≤ 9223372036854775807 := hn
  have HR := Lib.hid hR
  have HL := Lib.hid hl
  have HBB := Lib.hid hB
  clear hR hl hn hB
  go_enter Try.func56, Try.ntmps56
  go_wp2_with fail
  go_loopw [8] (fun i wr => ∃ j : Nat, j ≤ n ∧ i = .int .i64 j ∧ Hid ((rs.take j).all (okN T N) = true) ∧ Hid (Fut w wr)) (fun i _ => n - (intOf i).toNat)
  case atStart => exact ⟨0, Nat.zero_le _, rfl, Lib.hid (by simp), Lib.hid (Fut.refl _)⟩
  case round =>
    obtain ⟨j, hj, rfl, hall, hF⟩ := hrel
    by_cases hlt : j < n
    · obtain ⟨x, hx⟩ := get_lt HL.out hlt
      obtain ⟨b, o, rfl, hc⟩ := HR.out j x hx
      have c0 := hF.out.cell (hc 0 _ (by decide) rfl)
      have c1 := hF.out.cell (hc 1 _ (by decide) rfl)
      have c2 := hF.out.cell (hc 2 _ (by decide) rfl)
      have c3 := hF.out.cell (hc 3 _ (by decide) rfl)
      have c4 := hF.out.cell (hc 4 _ (by decide) rfl)
      have c5 := hF.out.cell (hc 5 _ (by decide) rfl)
      simp only [Nat.add_zero] at c0
      have HCV := Lib.hid (bval1_any T N st B m d b0 x wr (HBB.out.fut hF.out))
      have HX := Lib.hid hx
      clear hx hc
      obtain ⟨bb, hbb⟩ : ∃ bb, okN T N x = bb := ⟨_, rfl⟩
      have HCX := Lib.hid hbb
      rw [hbb] at HCV
      clear hbb
      cases bb with
      | true =>
        go_wp2_with fail
        refine HCV.out.mono ?_
        rintro e w1 ⟨rfl, hb1⟩
        have HB := Lib.hid hb1
        clear hb1 c0 c1 c2 c3 c4 c5
        go_wp2_with fail
        exact ⟨⟨j + 1, by omega, by go_num, Lib.hid (take_all hall.out HX.out HCX.out), Lib.hid (hF.out.trans HB.out)⟩, by simp [intOf]; omega⟩
      | false =>
        go_wp2_with fail
        refine HCV.out.mono ?_
        rintro e w1 ⟨rfl, hb1⟩
        have HB := Lib.hid hb1
        clear hb1 c0 c1 c2 c3 c4 c5
        go_wp2_with fail
        go_ret
        exact ⟨⟨j, rfl, by rw [all_not HX.out HCX.out]; simp⟩, hF.out.trans HB.out⟩
    · have HFin := Lib.hid (all_take hall.out (by rw [HL.out]; omega))
      go_wp2_with fail
      go_ret
      exact ⟨⟨-1, rfl, by rw [HFin.out]; rfl⟩, hF.out⟩
theorem contN_any (T N st : Int) (B : Option Addr) (m d : Nat) (b0 : Nat) (A : Option Addr) (n c : Nat) (rs : List NR) (w : World) (hB : Blk w b0 24 #[.int .i64 T, .int .i64 N, .int .i64 st, .slice B m d]) (hl : rs.length = n) (hn : n ≤ maxLen) (hR : RdN w A rs) :
    Calls Try.prog 48 #[.slice A n c, .func (.func 49) #[] #[.pointer (some ⟨b0, 0, none⟩)]] w fun e w' => e = .returned (.bool (!(rs.all (okN T N)))) ∧ Below w.heap.size w w' := by
  have HC := Lib.hid (idxN_any T N st B m d b0 A n c rs w hB hl hn hR)
  clear hB hl hn hR
  go_enter Try.func48, Try.ntmps48
  go_wp2_with fail
  refine HC.out.mono ?_
  rintro e w1 ⟨⟨i, rfl, hi⟩, hb1⟩
  have HB := Lib.hid hb1
  have HI := Lib.hid hi
  clear hb1 hi
  go_wp2_with fail
  go_ret
  exact ⟨by rw [← HI.out]; rfl, HB.out⟩
theorem head_out {T N st : Int} {n : Nat} {rs : List NR} (hl : rs.length = n) (h : ¬ (0 ≤ T ∧ T ≤ 120 ∧ 1 ≤ N ∧ N ≤ 1000 ∧ 0 ≤ st ∧ st < N ∧ n ≤ 600)) : validN T N st rs = false := by
  cases hx : validN T N st rs with
  | false => rfl
  | true =>
    simp only [validN, headN, Bool.and_eq_true, decide_eq_true_eq] at hx
    exact absurd (by omega) h
theorem head_in {T N st : Int} {n : Nat} {rs : List NR} (hl : rs.length = n) (h : 0 ≤ T ∧ T ≤ 120 ∧ 1 ≤ N ∧ N ≤ 1000 ∧ 0 ≤ st ∧ st < N ∧ n ≤ 600) : validN T N st rs = rs.all (okN T N) := by
  have : headN T N st rs.length = true := by
    simp only [headN, Bool.and_eq_true, decide_eq_true_eq]
    omega
  rw [validN, this, Bool.true_and]
set_option maxHeartbeats 3200000 in
theorem bvalid_any (T N st : Int) (A : Option Addr) (n c : Nat) (rs : List NR) (w : World) (hl : rs.length = n) (hn : n ≤ maxLen) (hR : RdN w A rs) :
    Calls Try.prog 38 #[nmv T N st A n c] w fun e w' => e = .returned (.bool (validN T N st rs)) ∧ Below w.heap.size w w' := by
  have hn' : n ≤ 9223372036854775807 := hn
  have HL := Lib.hid hl
  have HF := Lib.hid ((Fut.refl w).alloc (.cells #[.int .i64 T, .int .i64 N, .int .i64 st, .slice A n c] 24))
  have HBB := Lib.hid (show Blk (w.alloc (.cells #[.int .i64 T, .int .i64 N, .int .i64 st, .slice A n c] 24)) w.heap.size 24 #[.int .i64 T, .int .i64 N, .int .i64 st, .slice A n c] from heap_new' _ _ _ rfl)
  have HC := Lib.hid (contN_any T N st A n c w.heap.size A n c rs _ HBB.out hl hn (hR.fut HF.out))
  clear hl hn hR
  by_cases hh : 0 ≤ T ∧ T ≤ 120 ∧ 1 ≤ N ∧ N ≤ 1000 ∧ 0 ≤ st ∧ st < N ∧ n ≤ 600
  · have HA := Lib.hid (head_in HL.out hh)
    obtain ⟨h1, h2, h3, h4, h5, h6, h7⟩ := hh
    have x1 : (T < 0) = False := eq_false (by omega)
    have x2 : (120 < T) = False := eq_false (by omega)
    have x3 : (N < 1) = False := eq_false (by omega)
    have x4 : (1000 < N) = False := eq_false (by omega)
    have x5 : (st < 0) = False := eq_false (by omega)
    have x6 : (N ≤ st) = False := eq_false (by omega)
    have x7 : ((600 : Int) < (n : Int)) = False := eq_false (by omega)
    clear h1 h2 h3 h4 h5 h6 h7
    go_enter Try.func38, Try.ntmps38
    go_wp2_with fail
    refine HC.out.mono ?_
    rintro e w1 ⟨rfl, hb1⟩
    have HB := Lib.hid hb1
    clear hb1
    go_wp2_with fail
    go_ret
    exact ⟨by rw [HA.out]; rfl, HF.out.trans HB.out⟩
  · have HA := Lib.hid (head_out HL.out hh)
    have hg : T < 0 ∨ (¬ T < 0 ∧ 120 < T) ∨ (¬ T < 0 ∧ ¬ 120 < T ∧ N < 1) ∨ (¬ T < 0 ∧ ¬ 120 < T ∧ ¬ N < 1 ∧ 1000 < N) ∨ (¬ T < 0 ∧ ¬ 120 < T ∧ ¬ N < 1 ∧ ¬ 1000 < N ∧ st < 0) ∨ (¬ T < 0 ∧ ¬ 120 < T ∧ ¬ N < 1 ∧ ¬ 1000 < N ∧ ¬ st < 0 ∧ N ≤ st) ∨ (¬ T < 0 ∧ ¬ 120 < T ∧ ¬ N < 1 ∧ ¬ 1000 < N ∧ ¬ st < 0 ∧ ¬ N ≤ st ∧ (600 : Int) < n) := by omega
    clear hh
    rcases hg with g1 | ⟨g1, g2⟩ | ⟨g1, g2, g3⟩ | ⟨g1, g2, g3, g4⟩ | ⟨g1, g2, g3, g4, g5⟩ | ⟨g1, g2, g3, g4, g5, g6⟩ | ⟨g1, g2, g3, g4, g5, g6, g7⟩
    all_goals
      go_enter Try.func38, Try.ntmps38
      go_wp2_with fail
      go_ret
      exact ⟨by rw [HA.out]; rfl, HF.out⟩
end Go.Proofs.Ytleapckcihcpaaa
