/-
  Validity of columns and of inputs, as the program and as the reference have it.
-/
import Derived.Test.YtagmpbgidooibaaC2
namespace Go.Proofs.Ytagmpbgidooibaa
open Go.RowKit
attribute [local go_sem] Oper.lit fut_fut fut_drew World.cell?_alloc_some
theorem take_all {α : Type} {p : α → Bool} {l : List α} {k : Nat} {x : α} (h : (l.take k).all p = true) (hx : l[k]? = some x) (hp : p x = true) : (l.take (k + 1)).all p = true := by
  rw [List.take_add_one, hx, List.all_append, h]; simp [hp]
theorem all_not {α : Type} {p : α → Bool} {l : List α} {k : Nat} {x : α} (hx : l[k]? = some x) (hp : p x = false) : l.all p = false :=
  List.all_eq_false.2 ⟨x, List.mem_of_getElem? hx, by simp [hp]⟩
theorem all_take {α : Type} {p : α → Bool} {l : List α} {k : Nat} (h : (l.take k).all p = true) (hk : l.length ≤ k) : l.all p = true := by
  rwa [List.take_of_length_le hk] at h
theorem vcol1_any (T : Int) (b0 : Nat) (c : CC) (w : World) (h0 : w.cell? ⟨b0, 0, none⟩ = some (.int .i64 T)) (hR : Rd1 w c.A (.int .i64 ·) c.r) (hl : c.r.length ≤ maxLen) :
    Calls Try.prog 36 #[cv c, .pointer (some ⟨b0, 0, none⟩)] w fun e w' => e = .returned (.bool (!colB T c)) ∧ Below w.heap.size w w' := by
  obtain ⟨kd, r, d, A, k⟩ := c
  have HR := Lib.hid hR
  have HL := Lib.hid hl
  clear hR hl
  have q0 : (w.alloc (.cells #[.int .i64 kd, .slice A r.length k, .int .i64 d] 51)).cell? ⟨b0, 0, none⟩ = some (.int .i64 T) := ((Fut.refl w).alloc _).cell h0
  have HW := Lib.hid ((Fut.refl w).alloc (.cells #[.int .i64 kd, .slice A r.length k, .int .i64 d] 51))
  have HCV := Lib.hid (fun w' h => validColumn_any T kd d r A k w' h HL.out)
  go_enter Try.func36, Try.ntmps36
  go_wp2_with (go_at_call 37; refine (HCV.out _ (HR.out.fut HW.out)).mono ?_; rintro e w1 ⟨rfl, hb1⟩; have HB := Lib.hid hb1; clear hb1)
  go_ret
  exact ⟨rfl, HW.out.trans HB.out⟩
theorem vin1_any (x : Int) (w : World) : Calls Try.prog 24 #[.int .i64 x] w fun e w' => e = .returned (.bool (!lg x)) ∧ Below w.heap.size w w' := by
  go_enter Try.func24, Try.ntmps24
  go_wp2_with (go_at_call 22; refine (large_any _ _).mono ?_; rintro e w1 ⟨rfl, rfl⟩)
  go_ret
  exact ⟨rfl, Fut.refl _⟩
set_option maxHeartbeats 1600000 in
theorem idxC_any (T : Int) (b0 : Nat) (A : Option Addr) (n c : Nat) (cs : List CC) (w : World) (h0 : w.cell? ⟨b0, 0, none⟩ = some (.int .i64 T)) (hl : cs.length = n) (hn : n ≤ maxLen) (hR : RdC w A cs) :
    Calls Try.prog 44 #[.slice A n c, .func (.func 36) #[] #[.pointer (some ⟨b0, 0, none⟩)]] w fun e w' => (∃ i : Int, e = .returned (.int .i64 i) ∧ decide (0 ≤ i) = !(cs.all (colB T))) ∧ Below w.heap.size w w' := by
  have hn' : n ≤ 9223372036854775807 := hn
  have HR := Lib.hid hR
  have HL := Lib.hid hl
  clear hR hl hn
  go_enter Try.func44, Try.ntmps44
  go_wp2_with fail
  go_loopw [8] (fun i wr => ∃ j : Nat, j ≤ n ∧ i = .int .i64 j ∧ Hid ((cs.take j).all (colB T) = true) ∧ Hid (Fut w wr)) (fun i _ => n - (intOf i).toNat)
  case atStart => exact ⟨0, Nat.zero_le _, rfl, Lib.hid (by simp), Lib.hid (Fut.refl _)⟩
  case round =>
    obtain ⟨j, hj, rfl, hall, hF⟩ := hrel
    by_cases hlt : j < n
    · obtain ⟨x, hx⟩ := get_lt HL.out hlt
      obtain ⟨b, o, rfl, hc⟩ := HR.out.1 j x hx
      obtain ⟨ht, htl⟩ := HR.out.2 x (List.mem_of_getElem? hx)
      have c0 := hF.out.cell (hc 0 _ (by decide) rfl)
      have c1 := hF.out.cell (hc 1 _ (by decide) rfl)
      have c2 := hF.out.cell (hc 2 _ (by decide) rfl)
      simp only [Nat.add_zero] at c0
      have HCV := Lib.hid (vcol1_any T b0 x wr (hF.out.cell h0) (ht.fut hF.out) htl)
      have HX := Lib.hid hx
      clear hx hc ht h0
      cases hcx : colB T x with
      | true =>
        have HCX := Lib.hid hcx
        rw [hcx] at HCV
        clear hcx
        go_wp2_with (go_at_call 36; refine HCV.out.mono ?_; rintro e w1 ⟨rfl, hb1⟩; have HB := Lib.hid hb1; clear hb1)
        exact ⟨⟨j + 1, by omega, by go_num, Lib.hid (take_all hall.out HX.out HCX.out), Lib.hid (hF.out.trans HB.out)⟩, by simp [intOf]; omega⟩
      | false =>
        have HCX := Lib.hid hcx
        rw [hcx] at HCV
        clear hcx
        go_wp2_with (go_at_call 36; refine HCV.out.mono ?_; rintro e w1 ⟨rfl, hb1⟩; have HB := Lib.hid hb1; clear hb1)
        go_ret
        exact ⟨⟨j, rfl, by rw [all_not HX.out HCX.out]; simp⟩, hF.out.trans HB.out⟩
    · have HFin := Lib.hid (all_take hall.out (by rw [HL.out]; omega))
      go_wp2_with fail
      go_ret
      exact ⟨⟨-1, rfl, by rw [HFin.out]; rfl⟩, hF.out⟩
set_option maxHeartbeats 1600000 in
theorem idxI_any (A : Option Addr) (n c : Nat) (cs : List Int) (w : World) (hl : cs.length = n) (hn : n ≤ maxLen) (hR : Rd1 w A (.int .i64 ·) cs) :
    Calls Try.prog 34 #[.slice A n c, .func (.func 24) #[] #[]] w fun e w' => (∃ i : Int, e = .returned (.int .i64 i) ∧ decide (0 ≤ i) = !(cs.all (lg))) ∧ Below w.heap.size w w' := by
  have hn' : n ≤ 9223372036854775807 := hn
  have HR := Lib.hid hR
  have HL := Lib.hid hl
  clear hR hl hn
  go_enter Try.func34, Try.ntmps34
  go_wp2_with fail
  go_loopw [8] (fun i wr => ∃ j : Nat, j ≤ n ∧ i = .int .i64 j ∧ Hid ((cs.take j).all (lg) = true) ∧ Hid (Fut w wr)) (fun i _ => n - (intOf i).toNat)
  case atStart => exact ⟨0, Nat.zero_le _, rfl, Lib.hid (by simp), Lib.hid (Fut.refl _)⟩
  case round =>
    obtain ⟨j, hj, rfl, hall, hF⟩ := hrel
    by_cases hlt : j < n
    · obtain ⟨x, hx⟩ := get_lt HL.out hlt
      obtain ⟨b, o, rfl, hc⟩ := HR.out j x hx
      have c0 := hF.out.cell hc
      have HCV := Lib.hid (vin1_any x wr)
      have HX := Lib.hid hx
      clear hx hc
      cases hcx : lg x with
      | true =>
        have HCX := Lib.hid hcx
        rw [hcx] at HCV
        clear hcx
        go_wp2_with (go_at_call 24; refine HCV.out.mono ?_; rintro e w1 ⟨rfl, hb1⟩; have HB := Lib.hid hb1; clear hb1)
        exact ⟨⟨j + 1, by omega, by go_num, Lib.hid (take_all hall.out HX.out HCX.out), Lib.hid (hF.out.trans HB.out)⟩, by simp [intOf]; omega⟩
      | false =>
        have HCX := Lib.hid hcx
        rw [hcx] at HCV
        clear hcx
        go_wp2_with (go_at_call 24; refine HCV.out.mono ?_; rintro e w1 ⟨rfl, hb1⟩; have HB := Lib.hid hb1; clear hb1)
        go_ret
        exact ⟨⟨j, rfl, by rw [all_not HX.out HCX.out]; simp⟩, hF.out.trans HB.out⟩
    · have HFin := Lib.hid (all_take hall.out (by rw [HL.out]; omega))
      go_wp2_with fail
      go_ret
      exact ⟨⟨-1, rfl, by rw [HFin.out]; rfl⟩, hF.out⟩
theorem contC_any (T : Int) (b0 : Nat) (A : Option Addr) (n c : Nat) (cs : List CC) (w : World) (h0 : w.cell? ⟨b0, 0, none⟩ = some (.int .i64 T)) (hl : cs.length = n) (hn : n ≤ maxLen) (hR : RdC w A cs) :
    Calls Try.prog 35 #[.slice A n c, .func (.func 36) #[] #[.pointer (some ⟨b0, 0, none⟩)]] w fun e w' => e = .returned (.bool (!(cs.all (colB T)))) ∧ Below w.heap.size w w' := by
  have HC := Lib.hid (idxC_any T b0 A n c cs w h0 hl hn hR)
  clear h0 hl hn hR
  go_enter Try.func35, Try.ntmps35
  go_wp2_with (go_at_call 44; refine HC.out.mono ?_; rintro e w1 ⟨⟨i, rfl, hi⟩, hb1⟩; have HB := Lib.hid hb1; have HI := Lib.hid hi; clear hb1 hi)
  go_ret
  exact ⟨by rw [← HI.out]; rfl, HB.out⟩
theorem contI_any (A : Option Addr) (n c : Nat) (cs : List Int) (w : World) (hl : cs.length = n) (hn : n ≤ maxLen) (hR : Rd1 w A (.int .i64 ·) cs) :
    Calls Try.prog 23 #[.slice A n c, .func (.func 24) #[] #[]] w fun e w' => e = .returned (.bool (!(cs.all lg))) ∧ Below w.heap.size w w' := by
  have HC := Lib.hid (idxI_any A n c cs w hl hn hR)
  clear hl hn hR
  go_enter Try.func23, Try.ntmps23
  go_wp2_with (go_at_call 34; refine HC.out.mono ?_; rintro e w1 ⟨⟨i, rfl, hi⟩, hb1⟩; have HB := Lib.hid hb1; have HI := Lib.hid hi; clear hb1 hi)
  go_ret
  exact ⟨by rw [← HI.out]; rfl, HB.out⟩
theorem vcols_any (T : Int) (A : Option Addr) (n c : Nat) (cs : List CC) (w : World) (hl : cs.length = n) (hn : n ≤ maxLen) (hR : RdC w A cs) :
    Calls Try.prog 25 #[.slice A n c, .int .i64 T] w fun e w' => e = .returned (.bool (cs.all (colB T))) ∧ Below w.heap.size w w' := by
  have HW := Lib.hid ((Fut.refl w).alloc (.cells #[.int .i64 T] 3))
  have HC := Lib.hid (contC_any T w.heap.size A n c cs _ (by (repeat (first | exact (cell_al_new _ _ _ _ _ _ (by first | rfl | (simp only [World.size_alloc]))).trans rfl | refine (cell_al_old _ _ _ (by first | omega | (simp only [World.size_alloc]; omega))).trans ?_))) hl hn (hR.fut HW.out))
  clear hl hn hR
  go_enter Try.func25, Try.ntmps25
  go_wp2_with (go_at_call 35; refine HC.out.mono ?_; rintro e w1 ⟨rfl, hb1⟩; have HB := Lib.hid hb1; clear hb1)
  go_ret
  exact ⟨by simp, HW.out.trans HB.out⟩
set_option maxHeartbeats 1600000 in
theorem rcols_any (T : Int) (A : Option Addr) (n c : Nat) (cs : List CC) (w : World) (hl : cs.length = n) (hn : n ≤ maxLen) (hR : RdC w A cs) :
    Calls Try.prog 26 #[.slice A n c, .int .i64 T] w fun e w' => e = .returned (.bool (cs.all (colB T))) ∧ Below w.heap.size w w' := by
  have hn' : n ≤ 9223372036854775807 := hn
  have HR := Lib.hid hR
  have HL := Lib.hid hl
  clear hR hl hn
  go_enter Try.func26, Try.ntmps26
  go_wp2_with fail
  go_loopw [5] (fun i wr => ∃ j : Nat, j ≤ n ∧ i = .int .i64 j ∧ Hid ((cs.take j).all (colB T) = true) ∧ Hid (Fut w wr)) (fun i _ => n - (intOf i).toNat)
  case atStart => exact ⟨0, Nat.zero_le _, rfl, Lib.hid (by simp), Lib.hid (Fut.refl _)⟩
  case round =>
    obtain ⟨j, hj, rfl, hall, hF⟩ := hrel
    by_cases hlt : j < n
    · obtain ⟨x, hx⟩ := get_lt HL.out hlt
      obtain ⟨b, o, rfl, hc⟩ := HR.out.1 j x hx
      obtain ⟨ht, htl⟩ := HR.out.2 x (List.mem_of_getElem? hx)
      have c0 := hF.out.cell (hc 0 _ (by decide) rfl)
      have c1 := hF.out.cell (hc 1 _ (by decide) rfl)
      have c2 := hF.out.cell (hc 2 _ (by decide) rfl)
      simp only [Nat.add_zero] at c0
      obtain ⟨kd, r, d, xA, xk⟩ := x
      have HCV := Lib.hid (rColumn_any T kd d r xA xk wr (ht.fut hF.out) htl)
      have HX := Lib.hid hx
      clear hx hc ht
      cases hcx : colB T ⟨kd, r, d, xA, xk⟩ with
      | true =>
        have HCX := Lib.hid hcx
        rw [hcx] at HCV
        clear hcx
        go_wp2_with (go_at_call 38; refine HCV.out.mono ?_; rintro e w1 ⟨rfl, hb1⟩; have HB := Lib.hid hb1; clear hb1)
        exact ⟨⟨j + 1, by omega, by go_num, Lib.hid (take_all hall.out HX.out HCX.out), Lib.hid (hF.out.trans HB.out)⟩, by simp [intOf]; omega⟩
      | false =>
        have HFin := Lib.hid (all_not HX.out hcx)
        rw [hcx] at HCV
        clear hcx
        go_wp2_with (go_at_call 38; refine HCV.out.mono ?_; rintro e w1 ⟨rfl, hb1⟩; have HB := Lib.hid hb1; clear hb1)
        go_ret
        exact ⟨by rw [HFin.out]; rfl, hF.out.trans HB.out⟩
    · have HFin := Lib.hid (all_take hall.out (by rw [HL.out]; omega))
      go_wp2_with fail
      go_ret
      exact ⟨by rw [HFin.out]; rfl, hF.out⟩
end Go.Proofs.Ytagmpbgidooibaa
