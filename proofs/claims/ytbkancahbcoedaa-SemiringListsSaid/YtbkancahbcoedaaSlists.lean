/-
  Lists of elements: the checks of their ranges.
-/
import Derived.Test.YtbkancahbcoedaaSumV
namespace Go.Proofs.Ytbkancahbcoedaa
open Go.RowKit
attribute [local go_sem] Oper.lit fut_fut fut_drew World.cell?_alloc_some
set_option maxHeartbeats 1600000 in
theorem rInts_any (A : Option Addr) (n c : Nat) (l : List Int) (w : World) (hl : l.length = n) (hn : n ≤ 1000) (hR : Rd1 w A (.int .i64 ·) l) :
    Calls Try.prog 19 #[.slice A n c] w fun e w' => e = .returned (.bool (l.all intB)) ∧ Below w.heap.size w w' := by
  have HR := Lib.hid hR
  have HL := Lib.hid hl
  clear hR hl
  go_enter Try.func19, Try.ntmps19
  go_wp2_with fail
  go_loopw [3] (fun i wr => ∃ k : Nat, k ≤ n ∧ i = .int .i64 k ∧ Hid ((l.take k).all intB = true) ∧ wr = w) (fun i _ => n - (intOf i).toNat)
  case atStart => exact ⟨0, Nat.zero_le _, rfl, Lib.hid (by simp), rfl⟩
  case round =>
    obtain ⟨k, hk, rfl, hall, rfl⟩ := hrel
    by_cases hlt : k < n
    · obtain ⟨x, hx⟩ : ∃ x, l[k]? = some x := ⟨_, List.getElem?_eq_getElem (by have := HL.out; omega)⟩
      obtain ⟨b, o, rfl, hcell⟩ := HR.out k x hx
      have HX := Lib.hid hx
      clear hx
      cases hi : intB x
      · go_wp2_with (go_at_call 28; refine (rInt_any _ _).mono ?_; rintro e w1 ⟨rfl, rfl⟩)
        go_ret
        refine ⟨?_, Below.refl _ _⟩
        have : l.all intB = false := List.all_eq_false.2 ⟨x, List.mem_of_getElem? HX.out, by simp [hi]⟩
        rw [this]; rfl
      · go_wp2_with (go_at_call 28; refine (rInt_any _ _).mono ?_; rintro e w1 ⟨rfl, rfl⟩)
        exact ⟨⟨k + 1, by omega, by go_num, Lib.hid (by rw [List.take_add_one, HX.out, List.all_append, hall.out]; simp [hi]), by first | rfl | trivial⟩, by simp [intOf]; omega⟩
    · have hkn : k = n := by omega
      have hf : l.all intB = true := by rw [← hall.out, List.take_of_length_le (by rw [HL.out]; omega)]
      have HF := Lib.hid hf
      clear hkn hf
      go_wp2_with fail
      go_ret
      exact ⟨by rw [HF.out]; rfl, Below.refl _ _⟩
set_option maxHeartbeats 1600000 in
theorem rValues_any (A : Option Addr) (n c : Nat) (l : List (Int × Int)) (w : World) (hl : l.length = n) (hn : n ≤ 1000) (hR : RdS w A 2 pe l) :
    Calls Try.prog 20 #[.slice A n c] w fun e w' => e = .returned (.bool (l.all fun p => valB p.1 p.2)) ∧ Below w.heap.size w w' := by
  have HR := Lib.hid hR
  have HL := Lib.hid hl
  clear hR hl
  go_enter Try.func20, Try.ntmps20
  go_wp2_with fail
  go_loopw [3] (fun i wr => ∃ k : Nat, k ≤ n ∧ i = .int .i64 k ∧ Hid ((l.take k).all (fun p => valB p.1 p.2) = true) ∧ Fut w wr) (fun i _ => n - (intOf i).toNat)
  case atStart => exact ⟨0, Nat.zero_le _, rfl, Lib.hid (by simp), Fut.refl _⟩
  case round =>
    obtain ⟨k, hk, rfl, hall, hF⟩ := hrel
    by_cases hlt : k < n
    · obtain ⟨x, hx⟩ : ∃ x, l[k]? = some x := ⟨_, List.getElem?_eq_getElem (by have := HL.out; omega)⟩
      obtain ⟨b, o, rfl, hcell⟩ := HR.out k x hx
      have h0 := hF.cell (hcell 0 _ (by decide) rfl)
      have h1 := hF.cell (hcell 1 _ (by decide) rfl)
      simp only [Nat.add_zero] at h0
      have HX := Lib.hid hx
      clear hx hcell
      obtain ⟨x1, x2⟩ := x
      have HFF := Lib.hid hF
      clear hF
      cases hi : valB x1 x2
      · go_wp2_with (go_at_call 11; refine (rValue_any _ _ _).mono ?_; rintro e w1 ⟨rfl, hb⟩; have HB := Lib.hid hb; clear hb)
        go_ret
        refine ⟨?_, Fut.trans HFF.out (by first | exact HB.out | (rename_i HB; exact HB.out))⟩
        have : l.all (fun p => valB p.1 p.2) = false := List.all_eq_false.2 ⟨(x1, x2), List.mem_of_getElem? HX.out, by simp [hi]⟩
        rw [this]; rfl
      · go_wp2_with (go_at_call 11; refine (rValue_any _ _ _).mono ?_; rintro e w1 ⟨rfl, hb⟩; have HB := Lib.hid hb; clear hb)
        exact ⟨⟨k + 1, by omega, by go_num, Lib.hid (by rw [List.take_add_one, HX.out, List.all_append, hall.out]; simp [hi]), Fut.trans HFF.out HB.out⟩, by simp [intOf]; omega⟩
    · have hkn : k = n := by omega
      have hf : l.all (fun p => valB p.1 p.2) = true := by rw [← hall.out, List.take_of_length_le (by rw [HL.out]; omega)]
      have HF := Lib.hid hf
      clear hkn hf
      go_wp2_with fail
      go_ret
      exact ⟨by rw [HF.out]; rfl, hF⟩
end Go.Proofs.Ytbkancahbcoedaa
