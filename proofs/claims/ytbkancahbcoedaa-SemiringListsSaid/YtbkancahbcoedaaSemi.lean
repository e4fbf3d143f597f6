/-
  The semirings: what each method computes.
-/
import Derived.Test.YtbkancahbcoedaaOrders
import Derived.Test.YtbkancahbcoedaaMem
import Derived.Test.YtbkancahbcoedaaShelf
import Derived.Handy
import Derived.Deep.RegionHeld
import Derived.WalkKit
import Derived.WalkSpells
import Derived.WalkLawsBesides
import Derived.BigQuiet
namespace Go.Proofs.Ytbkancahbcoedaa
open Go.RowKit
attribute [local go_sem] Oper.lit fut_fut fut_drew World.cell?_alloc_some
abbrev vv (c s : Int) : Value := .agg #[.int .i64 c, .int .i64 s]
abbrev uu : Value := .agg #[]
def plusF (a b : Int) : Int := if a + b < 1099511627776 then a + b else 1099511627776
def mulF (a b : Int) : Int := if a * b < 1099511627776 then a * b else 1099511627776
def minF (a b : Int) : Int := if a < b then a else b
def lessB (a b c d : Int) : Bool := decide (a < c) || (decide (a = c) && decide (b < d))
/-- the lesser of two values -/
def vaC (a b c d : Int) : Int := if lessB c d a b then c else a
def vaS (a b c d : Int) : Int := if lessB c d a b then d else b
/-- the product of two values -/
def vmC (a c : Int) : Int := if a + c < 1099511627776 then a + c else 1099511627776
def vmS (a b c d : Int) : Int := if a + c < 1099511627776 then plusF b d else 0
def intB (a : Int) : Bool := decide (0 ≤ a) && decide (a ≤ 1099511627776)
def valB (c s : Int) : Bool := (decide (c = 1099511627776) && decide (s = 0)) || (decide (0 ≤ c) && decide (c < 1099511627776) && intB s)
theorem intB_iff {a : Int} : intB a = true ↔ 0 ≤ a ∧ a ≤ 1099511627776 := by simp [intB]
theorem valB_iff {c s : Int} : valB c s = true ↔ (c = 1099511627776 ∧ s = 0) ∨ (0 ≤ c ∧ c < 1099511627776 ∧ 0 ≤ s ∧ s ≤ 1099511627776) := by simp [valB, intB, and_assoc]
theorem valB_bd {c s : Int} (h : valB c s = true) : 0 ≤ c ∧ c ≤ 1099511627776 ∧ 0 ≤ s ∧ s ≤ 1099511627776 := by
  rcases valB_iff.1 h with ⟨rfl, rfl⟩ | h <;> omega
theorem plusF_bd {a b : Int} (ha : 0 ≤ a) (hb : 0 ≤ b) : 0 ≤ plusF a b ∧ plusF a b ≤ 1099511627776 := by unfold plusF; split <;> omega
theorem mulF_bd {a b : Int} (ha : 0 ≤ a) (hb : 0 ≤ b) : 0 ≤ mulF a b ∧ mulF a b ≤ 1099511627776 := by
  have := Int.mul_nonneg ha hb
  unfold mulF; split <;> omega
theorem plus_any (a b : Int) (ha : 0 ≤ a) (ha1 : a ≤ 1099511627776) (hb : 0 ≤ b) (hb1 : b ≤ 1099511627776) (w : World) : Calls Try.prog 49 #[.int .i64 a, .int .i64 b] w fun e w' => e = .returned (.int .i64 (plusF a b)) ∧ w' = w := by
  go_enter Try.func49, Try.ntmps49
  go_wp2
  all_goals
    go_returns
    refine ⟨?_, rfl⟩
    first | rfl | (simp_all [plusF]; try omega)
theorem boolZero_any  (w : World) : Calls Try.prog 47 #[uu] w fun e w' => e = .returned (.bool false) ∧ Below w.heap.size w w' := by
  go_enter Try.func47, Try.ntmps47
  go_wp2
  all_goals
    go_returns
    refine ⟨?_, by go_grown⟩
    first | rfl | (simp_all; try omega)
theorem boolOne_any  (w : World) : Calls Try.prog 46 #[uu] w fun e w' => e = .returned (.bool true) ∧ Below w.heap.size w w' := by
  go_enter Try.func46, Try.ntmps46
  go_wp2
  all_goals
    go_returns
    refine ⟨?_, by go_grown⟩
    first | rfl | (simp_all; try omega)
theorem boolAdd_any (a b : Bool) (w : World) : Calls Try.prog 38 #[uu, .bool a, .bool b] w fun e w' => e = .returned (.bool (a || b)) ∧ Below w.heap.size w w' := by
  go_enter Try.func38, Try.ntmps38
  go_wp2
  all_goals
    go_returns
    refine ⟨?_, by go_grown⟩
    first | rfl | (simp_all; try omega)
theorem boolMul_any (a b : Bool) (w : World) : Calls Try.prog 39 #[uu, .bool a, .bool b] w fun e w' => e = .returned (.bool (a && b)) ∧ Below w.heap.size w w' := by
  go_enter Try.func39, Try.ntmps39
  go_wp2
  all_goals
    go_returns
    refine ⟨?_, by go_grown⟩
    first | rfl | (simp_all; try omega)
theorem boolEqual_any (a b : Bool) (w : World) : Calls Try.prog 40 #[uu, .bool a, .bool b] w fun e w' => e = .returned (.bool (a == b)) ∧ Below w.heap.size w w' := by
  go_enter Try.func40, Try.ntmps40
  go_wp2
  all_goals
    go_returns
    refine ⟨?_, by go_grown⟩
    first | rfl | (simp_all; try omega)
theorem tropZero_any  (w : World) : Calls Try.prog 30 #[uu] w fun e w' => e = .returned (.int .i64 1099511627776) ∧ Below w.heap.size w w' := by
  go_enter Try.func30, Try.ntmps30
  go_wp2
  all_goals
    go_returns
    refine ⟨?_, by go_grown⟩
    first | rfl | (simp_all; try omega)
theorem tropOne_any  (w : World) : Calls Try.prog 32 #[uu] w fun e w' => e = .returned (.int .i64 0) ∧ Below w.heap.size w w' := by
  go_enter Try.func32, Try.ntmps32
  go_wp2
  all_goals
    go_returns
    refine ⟨?_, by go_grown⟩
    first | rfl | (simp_all; try omega)
theorem tropAdd_any (a b : Int) (w : World) : Calls Try.prog 29 #[uu, .int .i64 a, .int .i64 b] w fun e w' => e = .returned (.int .i64 (minF a b)) ∧ Below w.heap.size w w' := by
  go_enter Try.func29, Try.ntmps29
  go_wp2
  all_goals
    go_returns
    refine ⟨?_, by go_grown⟩
    first | rfl | (simp_all [minF]; try omega)
theorem tropMul_any (a b : Int) (ha : 0 ≤ a) (ha1 : a ≤ 1099511627776) (hb : 0 ≤ b) (hb1 : b ≤ 1099511627776) (w : World) : Calls Try.prog 31 #[uu, .int .i64 a, .int .i64 b] w fun e w' => e = .returned (.int .i64 (plusF a b)) ∧ Below w.heap.size w w' := by
  go_enter Try.func31, Try.ntmps31
  go_wp2_with (go_at_call 49; refine (plus_any _ _ ha ha1 hb hb1 _).mono ?_; rintro e w1 ⟨rfl, rfl⟩)
  go_returns
  exact ⟨rfl, by go_grown⟩
theorem tropEqual_any (a b : Int) (w : World) : Calls Try.prog 44 #[uu, .int .i64 a, .int .i64 b] w fun e w' => e = .returned (.bool (a == b)) ∧ Below w.heap.size w w' := by
  go_enter Try.func44, Try.ntmps44
  go_wp2
  all_goals
    go_returns
    refine ⟨?_, by go_grown⟩
    first | rfl | (simp_all; try omega)
theorem cntZero_any  (w : World) : Calls Try.prog 34 #[uu] w fun e w' => e = .returned (.int .i64 0) ∧ Below w.heap.size w w' := by
  go_enter Try.func34, Try.ntmps34
  go_wp2
  all_goals
    go_returns
    refine ⟨?_, by go_grown⟩
    first | rfl | (simp_all; try omega)
theorem cntOne_any  (w : World) : Calls Try.prog 36 #[uu] w fun e w' => e = .returned (.int .i64 1) ∧ Below w.heap.size w w' := by
  go_enter Try.func36, Try.ntmps36
  go_wp2
  all_goals
    go_returns
    refine ⟨?_, by go_grown⟩
    first | rfl | (simp_all; try omega)
theorem cntAdd_any (a b : Int) (ha : 0 ≤ a) (ha1 : a ≤ 1099511627776) (hb : 0 ≤ b) (hb1 : b ≤ 1099511627776) (w : World) : Calls Try.prog 33 #[uu, .int .i64 a, .int .i64 b] w fun e w' => e = .returned (.int .i64 (plusF a b)) ∧ Below w.heap.size w w' := by
  go_enter Try.func33, Try.ntmps33
  go_wp2_with (go_at_call 49; refine (plus_any _ _ ha ha1 hb hb1 _).mono ?_; rintro e w1 ⟨rfl, rfl⟩)
  go_returns
  exact ⟨rfl, by go_grown⟩
theorem cntEqual_any (a b : Int) (w : World) : Calls Try.prog 45 #[uu, .int .i64 a, .int .i64 b] w fun e w' => e = .returned (.bool (a == b)) ∧ Below w.heap.size w w' := by
  go_enter Try.func45, Try.ntmps45
  go_wp2
  all_goals
    go_returns
    refine ⟨?_, by go_grown⟩
    first | rfl | (simp_all; try omega)
def hiF (x y : Int) : Int := ((x.toNat * y.toNat / 18446744073709551616 : Nat) : Int)
def loF (x y : Int) : Int := ((x.toNat * y.toNat % 18446744073709551616 : Nat) : Int)
theorem hilo {x y : Int} (hx : 0 ≤ x) (hx1 : x ≤ 1099511627776) (hy : 0 ≤ y) (hy1 : y ≤ 1099511627776) :
    (0 < hiF x y → mulF x y = 1099511627776) ∧ (hiF x y ≤ 0 → 1099511627776 ≤ loF x y → mulF x y = 1099511627776) ∧ (hiF x y ≤ 0 → loF x y < 1099511627776 → mulF x y = loF x y) ∧ 0 ≤ hiF x y ∧ 0 ≤ loF x y ∧ loF x y ≤ 18446744073709551615 := by
  obtain ⟨m, rfl⟩ := Int.eq_ofNat_of_zero_le hx
  obtain ⟨n, rfl⟩ := Int.eq_ofNat_of_zero_le hy
  unfold mulF hiF loF
  have e : ((m : Int) * (n : Int)) = ((m * n : Nat) : Int) := by simp
  rw [e]
  simp only [Int.toNat_natCast]
  generalize m * n = z
  refine ⟨fun h => ?_, fun h1 h2 => ?_, fun h1 h2 => ?_, ?_, ?_, ?_⟩
  · split <;> omega
  · split <;> omega
  · split <;> omega
  all_goals omega
theorem mul64_any (x y : Int) (hx : 0 ≤ x) (hx1 : x ≤ 1099511627776) (hy : 0 ≤ y) (hy1 : y ≤ 1099511627776) (w : World) :
    Calls Try.prog 52 #[.int .u64 x, .int .u64 y] w fun e w' => e = .returned (.tuple #[.int .u64 (hiF x y), .int .u64 (loF x y)]) ∧ w' = w := by
  obtain ⟨m, rfl⟩ := Int.eq_ofNat_of_zero_le hx
  obtain ⟨n, rfl⟩ := Int.eq_ofNat_of_zero_le hy
  exact Try.bits_Mul64 m n (by omega) (by omega) w
theorem cntMul_any (a b : Int) (ha : 0 ≤ a) (ha1 : a ≤ 1099511627776) (hb : 0 ≤ b) (hb1 : b ≤ 1099511627776) (w : World) : Calls Try.prog 35 #[uu, .int .i64 a, .int .i64 b] w fun e w' => e = .returned (.int .i64 (mulF a b)) ∧ Below w.heap.size w w' := by
  obtain ⟨h1, h2, h3, h4, h5, h6⟩ := hilo ha ha1 hb hb1
  have H1 := Lib.hid h1
  have H2 := Lib.hid h2
  have H3 := Lib.hid h3
  clear h1 h2 h3
  go_enter Try.func35, Try.ntmps35
  go_wp2_with (go_at_call 52; refine (mul64_any a b ha ha1 hb hb1 _).mono ?_; rintro e w1 ⟨rfl, rfl⟩)
  all_goals
    go_returns
    refine ⟨?_, by go_grown⟩
    congr 1
    first | (rw [H1.out (by omega)]; rfl) | (rw [H2.out (by omega) (by omega)]; rfl) | (rw [H3.out (by omega) (by omega)]; rfl)
theorem lexZero_any  (w : World) : Calls Try.prog 37 #[uu] w fun e w' => e = .returned (vv 1099511627776 0) ∧ w' = (w.alloc (.cells #[] 27)).alloc (.cells #[.int .i64 1099511627776, .int .i64 0] 23) := by
  go_enter Try.func37, Try.ntmps37
  go_wp2
  all_goals
    go_returns
    refine ⟨?_, rfl⟩
    first | rfl | (simp_all; try omega)
theorem lexOne_any  (w : World) : Calls Try.prog 18 #[uu] w fun e w' => e = .returned (vv 0 0) ∧ Below w.heap.size w w' := by
  go_enter Try.func18, Try.ntmps18
  go_wp2
  all_goals
    go_returns
    refine ⟨?_, by go_grown⟩
    first | rfl | (simp_all; try omega)
theorem lexAdd_any (a b c d : Int) (w : World) : Calls Try.prog 13 #[uu, vv a b, vv c d] w fun e w' => e = .returned (vv (vaC a b c d) (vaS a b c d)) ∧ Below w.heap.size w w' := by
  go_enter Try.func13, Try.ntmps13
  go_wp2
  all_goals
    go_returns
    refine ⟨?_, by go_grown⟩
    first | rfl | (simp_all [vaC, vaS, lessB]; try omega)
theorem lexEqual_any (a b c d : Int) (w : World) : Calls Try.prog 17 #[uu, vv a b, vv c d] w fun e w' => e = .returned (.bool (decide (a = c ∧ b = d))) ∧ Below w.heap.size w w' := by
  go_enter Try.func17, Try.ntmps17
  go_wp2
  all_goals
    go_returns
    refine ⟨?_, by go_grown⟩
    first | rfl | (simp_all; try omega)
theorem lexMul_any (a b c d : Int) (ha : 0 ≤ a) (ha1 : a ≤ 1099511627776) (hb : 0 ≤ b) (hb1 : b ≤ 1099511627776) (hc : 0 ≤ c) (hc1 : c ≤ 1099511627776) (hd : 0 ≤ d) (hd1 : d ≤ 1099511627776) (w : World) : Calls Try.prog 15 #[uu, vv a b, vv c d] w fun e w' => e = .returned (vv (vmC a c) (vmS a b c d)) ∧ Below w.heap.size w w' := by
  · skip
    by_cases h : a + c < 1099511627776
    · have hp := plusF_bd hb hd
      go_enter Try.func15, Try.ntmps15
      go_wp2_with fail
      have k0 : ∀ dd os, (fut (((w.alloc (.cells #[] 27)).alloc (.cells #[.int .i64 a, .int .i64 b] 23)).alloc (.cells #[.int .i64 c, .int .i64 d] 23) |>.alloc (.cells #[.int .i64 0, .int .i64 0] 23)) dd os).cell? ⟨w.heap.size + 1, 0, none⟩ = some (.int .i64 a) := cell_fut (by (first | (with_reducible assumption) | ((try simp (disch := first | (simp only [World.size_alloc, World.size_drew, World.size_setCell]; done) | (simp only [World.size_alloc, World.size_drew, World.size_setCell]; omega) | omega) only [cell_al_new, cell_al_old, cell_dr]); first | (with_reducible assumption) | rfl | (simp; done))))
      have k1 : ∀ dd os, (fut (((w.alloc (.cells #[] 27)).alloc (.cells #[.int .i64 a, .int .i64 b] 23)).alloc (.cells #[.int .i64 c, .int .i64 d] 23) |>.alloc (.cells #[.int .i64 0, .int .i64 0] 23)) dd os).cell? ⟨w.heap.size + 1, 1, none⟩ = some (.int .i64 b) := cell_fut (by (first | (with_reducible assumption) | ((try simp (disch := first | (simp only [World.size_alloc, World.size_drew, World.size_setCell]; done) | (simp only [World.size_alloc, World.size_drew, World.size_setCell]; omega) | omega) only [cell_al_new, cell_al_old, cell_dr]); first | (with_reducible assumption) | rfl | (simp; done))))
      have k2 : ∀ dd os, (fut (((w.alloc (.cells #[] 27)).alloc (.cells #[.int .i64 a, .int .i64 b] 23)).alloc (.cells #[.int .i64 c, .int .i64 d] 23) |>.alloc (.cells #[.int .i64 0, .int .i64 0] 23)) dd os).cell? ⟨w.heap.size + 1 + 1, 0, none⟩ = some (.int .i64 c) := cell_fut (by (first | (with_reducible assumption) | ((try simp (disch := first | (simp only [World.size_alloc, World.size_drew, World.size_setCell]; done) | (simp only [World.size_alloc, World.size_drew, World.size_setCell]; omega) | omega) only [cell_al_new, cell_al_old, cell_dr]); first | (with_reducible assumption) | rfl | (simp; done))))
      have k3 : ∀ dd os, (fut (((w.alloc (.cells #[] 27)).alloc (.cells #[.int .i64 a, .int .i64 b] 23)).alloc (.cells #[.int .i64 c, .int .i64 d] 23) |>.alloc (.cells #[.int .i64 0, .int .i64 0] 23)) dd os).cell? ⟨w.heap.size + 1 + 1, 1, none⟩ = some (.int .i64 d) := cell_fut (by (first | (with_reducible assumption) | ((try simp (disch := first | (simp only [World.size_alloc, World.size_drew, World.size_setCell]; done) | (simp only [World.size_alloc, World.size_drew, World.size_setCell]; omega) | omega) only [cell_al_new, cell_al_old, cell_dr]); first | (with_reducible assumption) | rfl | (simp; done))))
      refine wp_region_M o_semiring_Lexicographic_Mul_3 (by kernel_rfl) (by kernel_rfl) (by intro c a d v w h; cases d <;> exact h) ?_; unfold o_semiring_Lexicographic_Mul_3
      repeat (first
        | (refine wpF_h rfl rfl (fun K hK => ?_); go_simp; refine hK _ _ ?_; clear hK K)
        | (refine wpF_o rfl rfl (fun K hK => ?_); go_simp; go_at_call 49; refine (plus_any b d hb hb1 hd hd1 _).mono ?_; rintro e w1 ⟨rfl, rfl⟩; refine hK _ _ (.inr (Fut.refl _)) ?_; clear hK K))
      refine wpF_o rfl rfl (fun K hK => ?_)
      go_simp
      refine hK _ _ (.inl (by kernel_rfl)) ?_; clear hK K
      refine wpF_nil ?_
      go_wp2_with fail
      go_returns
      refine ⟨?_, by go_grown⟩
      simp [vmC, vmS, h]
      exact IntWalk.i64_in _ ⟨by omega, by omega⟩
    · have h' : 1099511627776 ≤ a + c := by omega
      go_enter Try.func15, Try.ntmps15
      go_wp2_with (go_at_call 37; refine (lexZero_any _).mono ?_; rintro e w1 ⟨rfl, rfl⟩)
      go_returns
      refine ⟨?_, ?_⟩
      · simp [vmC, vmS, show ¬ a + c < 1099511627776 from by omega]
      · go_grown

theorem rInt_any (a : Int) (w : World) : Calls Try.prog 28 #[.int .i64 a] w fun e w' => e = .returned (.bool (intB a)) ∧ w' = w := by
  go_enter Try.func28, Try.ntmps28
  go_wp2
  all_goals
    go_returns
    refine ⟨?_, rfl⟩
    first | rfl | (simp_all [intB]; try omega)
theorem rTropAdd_any (a b : Int) (w : World) : Calls Try.prog 43 #[.int .i64 a, .int .i64 b] w fun e w' => e = .returned (.int .i64 (minF a b)) ∧ Below w.heap.size w w' := by
  go_enter Try.func43, Try.ntmps43
  go_wp2
  all_goals
    go_returns
    refine ⟨?_, by go_grown⟩
    first | rfl | (simp_all [minF]; try omega)
theorem rTropMul_any (a b : Int) (ha : 0 ≤ a) (ha1 : a ≤ 1099511627776) (hb : 0 ≤ b) (hb1 : b ≤ 1099511627776) (w : World) : Calls Try.prog 21 #[.int .i64 a, .int .i64 b] w fun e w' => e = .returned (.int .i64 (plusF a b)) ∧ Below w.heap.size w w' := by
  go_enter Try.func21, Try.ntmps21
  go_wp2
  all_goals
    go_returns
    refine ⟨?_, by go_grown⟩
    first | rfl | (simp_all [plusF]; try omega)
theorem rCntAdd_any (a b : Int) (ha : 0 ≤ a) (ha1 : a ≤ 1099511627776) (hb : 0 ≤ b) (hb1 : b ≤ 1099511627776) (w : World) : Calls Try.prog 22 #[.int .i64 a, .int .i64 b] w fun e w' => e = .returned (.int .i64 (plusF a b)) ∧ Below w.heap.size w w' := by
  go_enter Try.func22, Try.ntmps22
  go_wp2
  all_goals
    go_returns
    refine ⟨?_, by go_grown⟩
    first | rfl | (simp_all [plusF]; try omega)
theorem rLess_any (a b c d : Int) (w : World) : Calls Try.prog 48 #[vv a b, vv c d] w fun e w' => e = .returned (.bool (lessB a b c d)) ∧ w' = (w.alloc (.cells #[.int .i64 a, .int .i64 b] 23)).alloc (.cells #[.int .i64 c, .int .i64 d] 23) := by
  go_enter Try.func48, Try.ntmps48
  go_wp2
  all_goals
    go_returns
    refine ⟨?_, by first | rfl | (simp_all; done)⟩
    first | rfl | (simp_all [lessB]; try omega)
theorem rValueAdd_any (a b c d : Int) (w : World) : Calls Try.prog 14 #[vv a b, vv c d] w fun e w' => e = .returned (vv (vaC a b c d) (vaS a b c d)) ∧ Below w.heap.size w w' := by
  · skip
    cases h : lessB c d a b
    all_goals
      go_enter Try.func14, Try.ntmps14
      go_wp2_with (go_at_call 48; refine (rLess_any _ _ _ _ _).mono ?_; rintro e w1 ⟨rfl, rfl⟩)
      go_returns
      refine ⟨?_, by go_grown⟩
      simp [vaC, vaS, h]
theorem rCntMul_any (a b : Int) (ha : 0 ≤ a) (ha1 : a ≤ 1099511627776) (hb : 0 ≤ b) (hb1 : b ≤ 1099511627776) (w : World) : Calls Try.prog 23 #[.int .i64 a, .int .i64 b] w fun e w' => e = .returned (.int .i64 (mulF a b)) ∧ Below w.heap.size w w' := by
  · skip
    by_cases hz : a = 0 ∨ b = 0
    · have hm : mulF a b = 0 := by rcases hz with rfl | rfl <;> simp [mulF]
      have HM := Lib.hid hm
      clear hm
      by_cases hza : a = 0
      · have e1 : (a == 0) = true := by simp [hza]
        clear hz hza
        go_enter Try.func23, Try.ntmps23
        go_wp2
        go_returns
        exact ⟨by rw [HM.out]; rfl, by go_grown⟩
      · have e1 : (a == 0) = false := by simp [hza]
        have e2 : (b == 0) = true := by simp [hz.resolve_left hza]
        clear hz hza
        go_enter Try.func23, Try.ntmps23
        go_wp2
        go_returns
        exact ⟨by rw [HM.out]; rfl, by go_grown⟩
    · have e1 : (a == 0) = false := by simp; omega
      have e2 : (b == 0) = false := by simp; omega
      have e3 : 1 ≤ b := by omega
      have hq0 : 0 ≤ 1099511627776 / b := Int.ediv_nonneg (by omega) hb
      by_cases hq : 1099511627776 / b < a
      · have hm : mulF a b = 1099511627776 := by
          have h1 : 1099511627776 < a * b := (Int.ediv_lt_iff_lt_mul (by omega)).1 hq
          unfold mulF
          rw [if_neg (by omega)]
        have HM := Lib.hid hm
        clear hm hz
        go_enter Try.func23, Try.ntmps23
        go_wp2
        all_goals
          go_returns
          exact ⟨by rw [HM.out]; rfl, by go_grown⟩
      · have hab : a * b ≤ 1099511627776 := (Int.le_ediv_iff_mul_le (by omega)).1 (by omega)
        have hab0 : 0 ≤ a * b := Int.mul_nonneg ha hb
        have hw1 : IntKind.i64.wrap (a * b) = a * b := IntWalk.i64_in _ ⟨by omega, by omega⟩
        have hw2 : wrap64 (a * b) = a * b := IntWalk.wrap64_in _ ⟨by omega, by omega⟩
        clear hz
        go_enter Try.func23, Try.ntmps23
        go_wp2
        all_goals
          go_returns
          refine ⟨?_, by go_grown⟩
          simp_all [mulF]
          try omega
theorem rValueMul_any (a b c d : Int) (ha : 0 ≤ a) (ha1 : a ≤ 1099511627776) (hb : 0 ≤ b) (hb1 : b ≤ 1099511627776) (hc : 0 ≤ c) (hc1 : c ≤ 1099511627776) (hd : 0 ≤ d) (hd1 : d ≤ 1099511627776) (w : World) : Calls Try.prog 16 #[vv a b, vv c d] w fun e w' => e = .returned (vv (vmC a c) (vmS a b c d)) ∧ Below w.heap.size w w' := by
  go_enter Try.func16, Try.ntmps16
  go_wp2
  all_goals
    go_returns
    refine ⟨?_, by go_grown⟩
    first | rfl | (simp_all [vmC, vmS, plusF]; try omega)
theorem rValue_any (a b : Int) (w : World) : Calls Try.prog 11 #[vv a b] w fun e w' => e = .returned (.bool (valB a b)) ∧ Below w.heap.size w w' := by
  go_enter Try.func11, Try.ntmps11
  go_wp2_with (go_at_call 28; refine (rInt_any _ _).mono ?_; rintro e w1 ⟨rfl, rfl⟩)
  all_goals
    go_returns
    refine ⟨?_, by go_grown⟩
    first | rfl | (simp_all [valB]; try omega)
end Go.Proofs.Ytbkancahbcoedaa
