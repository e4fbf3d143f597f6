/-
  Derivable of the reference, walked.
-/
import Derived.Test.YtjoejkfchnooaaaHder2
namespace Go.Proofs.Ytjoejkfchnooaaa
open Go.RowKit
attribute [local go_sem] Oper.lit Oper.litS fut_fut fut_drew World.cell?_alloc_some
set_option maxHeartbeats 1600000 in
theorem all_any (A : Option Addr) (n c : Nat) (ts : List Int) (d N : Nat) (O : Nat → Bool) (r : Bool) (w : World) (hl : ts.length = n) (hn : n ≤ maxLen) (hr : (ts.map Int.toNat).all O = r) (ht : ∀ t ∈ ts, 0 ≤ t ∧ t < N) (hR : Rd1 w A (.int .i64 ·) ts) (hrow : w.rowIs d 4 N (fun i => .bool (O i))) :
    Calls Try.prog 31 #[.slice A n c, .slice (some ⟨d, 0, none⟩) N N] w fun e w' => e = .returned (.bool r) ∧ w' = w := by
  have hn' : n ≤ 9223372036854775807 := hn
  have HR := Lib.hid hR
  have HL := Lib.hid hl
  have HT := Lib.hid ht
  have HROW := Lib.hid hrow
  have HRR := Lib.hid hr
  clear hR hl ht hrow hn hr
  go_enter Try.func31, Try.ntmps31
  go_wp2_with fail
  go_loopw [5] (fun i wr => ∃ k : Nat, k ≤ n ∧ i = .int .i64 k ∧ Hid (((ts.map Int.toNat).take k).all O = true) ∧ wr = w) (fun i _ => n - (intOf i).toNat)
  case atStart => exact ⟨0, Nat.zero_le _, rfl, Lib.hid (by simp), rfl⟩
  case round =>
    obtain ⟨k, hk, rfl, hall, rfl⟩ := hrel
    by_cases hlt : k < n
    · obtain ⟨y, hy⟩ := get_lt HL.out hlt
      have hyv := HT.out y (List.mem_of_getElem? hy)
      obtain ⟨t, rfl⟩ : ∃ t : Nat, y = t := Int.eq_ofNat_of_zero_le hyv.1
      have htN : t < N := by have := hyv.2; omega
      obtain ⟨b, o, rfl, hc⟩ := HR.out k _ hy
      have hcd := HROW.out.cell htN
      have HY := Lib.hid (show (ts.map Int.toNat)[k]? = some t from by rw [List.getElem?_map, hy]; rfl)
      clear hy hyv
      cases ho : O t
      · rw [ho] at hcd
        have HFin := Lib.hid (show r = false from by rw [← HRR.out]; exact all_not (p := O) HY.out ho)
        clear ho
        go_wp2_with fail
        go_ret
        exact ⟨by rw [HFin.out]; rfl, rfl⟩
      · rw [ho] at hcd
        have HK := Lib.hid (take_all hall.out HY.out ho)
        clear ho
        go_wp2_with fail
        exact ⟨⟨k + 1, by omega, by go_num, HK, by first | rfl | trivial⟩, by simp [intOf]; omega⟩
    · have HFin := Lib.hid (show r = true from by rw [← HRR.out]; exact all_take hall.out (by rw [List.length_map, HL.out]; omega))
      go_wp2_with fail
      go_ret
      exact ⟨by rw [HFin.out]; rfl, rfl⟩
/-- the next round of the closure -/
structure DK (es : List EI) (N k : Nat) (O0 O : Nat → Bool) (b : Bool) : Prop where
  a : ∀ v, O v = true → Der es v
  f : b = false → O = O0 ∧ ∀ i, i < k → (tl es i).all O = true → O (headAt es i) = true
  t : b = true → nF N O < nF N O0
  le : nF N O ≤ nF N O0
theorem DK.start {es : List EI} {N : Nat} {O : Nat → Bool} (h : ∀ v, O v = true → Der es v) : DK es N 0 O O false := ⟨h, fun _ => ⟨rfl, fun i hi => (by omega)⟩, fun h => (by cases h), Nat.le_refl _⟩
theorem DK.mark {es : List EI} {N k : Nat} {O0 O : Nat → Bool} {b : Bool} (h : DK es N k O0 O b) (hk : k < es.length) (hh : headAt es k < N) (ho : O (headAt es k) = false) (ht : (tl es k).all O = true) : DK es N (k + 1) O0 (upd O (headAt es k) true) true := by
  have h1 := nF_upd N _ O hh ho
  refine ⟨fun v hv => ?_, fun h => (by cases h), fun _ => (by have := h.le; omega), by have := h.le; omega⟩
  rcases upd_true hv with rfl | hv
  · exact .mk k hk (fun t htm => h.a t (List.all_eq_true.1 ht t htm))
  · exact h.a v hv
theorem DK.skip {es : List EI} {N k : Nat} {O0 O : Nat → Bool} {b : Bool} (h : DK es N k O0 O b) (hs : O (headAt es k) = true ∨ (tl es k).all O = false) : DK es N (k + 1) O0 O b :=
  ⟨h.a, fun hb => ⟨(h.f hb).1, fun i hi ht => by
    by_cases e : i = k
    · subst e
      rcases hs with hs | hs
      · exact hs
      · rw [hs] at ht; cases ht
    · exact (h.f hb).2 i (by omega) ht⟩, h.t, h.le⟩
theorem DK.done {es : List EI} {N : Nat} {O0 O : Nat → Bool} (h : DK es N es.length O0 O false) : ∀ v, O v = true ↔ Der es v := fun v => ⟨h.a v, fun hd => by
  induction hd with
  | mk i hi ht ih => exact (h.f rfl).2 i hi (List.all_eq_true.2 (fun t htm => ih t htm))⟩
set_option maxHeartbeats 6400000 in
theorem rDerive_any (N : Nat) (A : Option Addr) (n c : Nat) (es : List EI) (w : World) (hl : es.length = n) (hn : n ≤ 1000) (hN : N ≤ 1048576) (hhd : ∀ e ∈ es, 0 ≤ e.h ∧ e.h < N) (htl : ∀ e ∈ es, ∀ t ∈ e.t, 0 ≤ t ∧ t < N) (hR : RdE w A es) :
    Calls Try.prog 17 #[hv N A n c] w fun e w' => ∃ b, e = .returned (.slice (some ⟨b, 0, none⟩) N N) ∧ Rd1 w' (some ⟨b, 0, none⟩) (Value.bool ·) (derL es N) ∧ Below w.heap.size w w' := by
  have HR := Lib.hid hR
  have HL := Lib.hid hl
  have HV := Lib.hid hhd
  have HT := Lib.hid htl
  clear hR hl hhd htl
  obtain ⟨i0, hi, hz0, hz1, hz2⟩ := info_parts info_bool
  have HW := Lib.hid (show Fut w ((w.alloc (.cells #[.int .i64 N, .slice A n c] 24)).alloc (.cells (madeCells #[.bool false] N) 4)) from ((Fut.refl w).alloc _).alloc _)
  have HROW := Lib.hid (show ((w.alloc (.cells #[.int .i64 N, .slice A n c] 24)).alloc (.cells (madeCells #[.bool false] N) 4)).rowIs (w.heap.size + 1) 4 N (fun _ => .bool false) from by
    have := World.rowIs_made (w.alloc (.cells #[.int .i64 N, .slice A n c] 24)) (.bool false) N 4
    simpa only [World.size_alloc] using this)
  have hbx : ((w.alloc (.cells #[.int .i64 N, .slice A n c] 24)).alloc (.cells (madeCells #[.bool false] N) 4)).cell? ⟨w.heap.size, 1, none⟩ = some (.slice A n c) := by (first | (with_reducible assumption) | ((try simp (disch := first | (simp only [World.size_alloc, World.size_drew, World.size_setCell]; done) | (simp only [World.size_alloc, World.size_drew, World.size_setCell]; omega) | omega) only [cell_al_new, cell_al_old, cell_dr]); first | (with_reducible assumption) | rfl | (simp; done)))
  go_enter Try.func17, Try.ntmps17
  go_wp2_with (refine wpList_make_row _ rfl _ _ 28 rfl 4 i0 (.bool false) Try.underlying28 hi hz0 hz1 rfl .i64 .i64 N rfl rfl (by rw [hz2]; omega) (by omega) ?_)
  have HBX := Lib.hid hbx
  go_loopw [4] (fun ch wr => ∃ (O : Nat → Bool) (b : Bool), ch = .bool b ∧ Hid (∀ v, O v = true → Der es v) ∧ Hid (b = false → ∀ v, O v = true ↔ Der es v) ∧ Hid (wr.rowIs (w.heap.size + 1) 4 N (fun i => .bool (O i))) ∧ Hid (Fut w wr) ∧ Hid (wr.cell? ⟨w.heap.size, 1, none⟩ = some (.slice A n c))) (fun ch wr => 2 * nFw wr (w.heap.size + 1) N + (match ch with | .bool true => 1 | _ => 0))
  case atStart => exact ⟨fun _ => false, true, rfl, Lib.hid (fun v h => by cases h), Lib.hid (fun h => by cases h), HROW, HW, HBX⟩
  case round =>
    clear HROW HW HBX hbx
    obtain ⟨O, b, rfl, hsound, hdone, hrow, hF, hbx⟩ := hrel
    cases b with
    | false =>
      have HD := Lib.hid (hdone.out rfl)
      go_wp2_with fail
      go_ret
      refine ⟨_, rfl, ?_, hF.out⟩
      rw [derL_eq (O := O) (fun i _ => HD.out i)]
      exact rd_row hrow.out
    | true =>
      have hb1 := hbx.out
      have HMS := Lib.hid (nFw_eq hrow.out)
      obtain ⟨wo, rfl⟩ : ∃ q, q = wr := ⟨_, rfl⟩
      go_wp2_with fail
      clear hb1
      go_loopw [4, 5] (fun ch i wr => ∃ (k : Nat) (O2 : Nat → Bool) (b : Bool), k ≤ n ∧ i = .int .i64 k ∧ ch = .bool b ∧ Hid (DK es N k O O2 b) ∧ Hid (wr.rowIs (w.heap.size + 1) 4 N (fun i => .bool (O2 i))) ∧ Hid (Fut w wr) ∧ Hid (wr.cell? ⟨w.heap.size, 1, none⟩ = some (.slice A n c))) (fun _ i _ => n - (intOf i).toNat)
      case atStart => exact ⟨0, O, false, Nat.zero_le _, rfl, rfl, Lib.hid (DK.start hsound.out), hrow, hF, hbx⟩
      case round =>
        clear hrow hF hbx
        obtain ⟨k, O2, b, hk, rfl, rfl, hDK, hrow, hF, hbx⟩ := hrel
        have hb1 := hbx.out
        by_cases hlt : k < n
        · obtain ⟨x, hx⟩ := get_lt HL.out hlt
          obtain ⟨b3, o3, rfl, hc⟩ := HR.out.1 k x hx
          have c0 := hF.out.cell (hc 0 _ (by decide) rfl)
          have c1 := hF.out.cell (hc 1 _ (by decide) rfl)
          have c2 := hF.out.cell (hc 2 _ (by decide) rfl)
          have c3 := hF.out.cell (hc 3 _ (by decide) rfl)
          have c4 := hF.out.cell (hc 4 _ (by decide) rfl)
          simp only [Nat.add_zero] at c0
          have hxh := HV.out x (List.mem_of_getElem? hx)
          have HXT := Lib.hid (HR.out.2 x (List.mem_of_getElem? hx))
          have HXV := Lib.hid (HT.out x (List.mem_of_getElem? hx))
          have HTL := Lib.hid (tl_of hx)
          have hha := headAt_of hx
          clear hx hc
          obtain ⟨xh, xt, xc, xl0, xl1, xA, xk⟩ := x
          simp only at HXT HXV HTL hxh hha c0 c1 c2 c3 c4
          obtain ⟨hd, rfl⟩ : ∃ m : Nat, xh = m := Int.eq_ofNat_of_zero_le hxh.1
          have hdN : hd < N := by have := hxh.2; omega
          have HHD := Lib.hid (show headAt es k = hd from hha)
          clear hxh hha
          have hro := Lib.hid (hrow.out.alloc (.cells #[.int .i64 hd, .slice xA xt.length xk, .int .i64 xc, .int .i64 xl0, .int .i64 xl1] 39))
          have hcd := hro.out.cell hdN
          have hcf := hro.out.frozen hd
          have hbo : (wr.alloc (.cells #[.int .i64 hd, .slice xA xt.length xk, .int .i64 xc, .int .i64 xl0, .int .i64 xl1] 39)).cell? ⟨w.heap.size, 1, none⟩ = some (.slice (some ⟨b3, o3, none⟩) n c) := ((Fut.refl _).alloc _).cell hb1
          have HFO := Lib.hid (hF.out.alloc (.cells #[.int .i64 hd, .slice xA xt.length xk, .int .i64 xc, .int .i64 xl0, .int .i64 xl1] 39))
          obtain ⟨wi, rfl⟩ : ∃ q, q = wr := ⟨_, rfl⟩
          cases ho : O2 hd
          · rw [ho] at hcd
            cases hal : (xt.map Int.toNat).all O2
            · have HDK := Lib.hid (hDK.out.skip (.inr (by rw [HTL.out]; exact hal)))
              have HAL := Lib.hid hal
              clear ho hal
              go_wp2_with (go_at_call 31; refine (all_any xA xt.length xk xt (w.heap.size + 1) N O2 _ _ rfl HXT.out.2 HAL.out HXV.out (HXT.out.1.fut HFO.out) hro.out).mono ?_; rintro e w1 ⟨rfl, rfl⟩)
              exact ⟨⟨k + 1, O2, b, by omega, by go_num, rfl, HDK, hro, HFO, Lib.hid hbo⟩, by simp [intOf]; omega⟩
            · have HDK := Lib.hid (hDK.out.mark (by rw [HL.out]; exact hlt) (by rw [HHD.out]; exact hdN) (by rw [HHD.out]; exact ho) (by rw [HTL.out]; exact hal))
              have HAL := Lib.hid hal
              clear ho hal
              go_wp2_with (go_at_call 31; refine (all_any xA xt.length xk xt (w.heap.size + 1) N O2 _ _ rfl HXT.out.2 HAL.out HXV.out (HXT.out.1.fut HFO.out) hro.out).mono ?_; rintro e w1 ⟨rfl, rfl⟩)
              refine ⟨⟨k + 1, upd O2 hd true, true, by omega, by go_num, rfl, Lib.hid ?_, Lib.hid (row_upd (f := Value.bool) hro.out), Lib.hid (HFO.out.setCell (by simp only; omega) _), Lib.hid (cell_set hbo (by simp))⟩, by simp [intOf]; omega⟩
              have := HDK.out
              rwa [HHD.out] at this
          · rw [ho] at hcd
            have HDK := Lib.hid (hDK.out.skip (.inl (by rw [HHD.out]; exact ho)))
            clear ho
            go_wp2_with fail
            exact ⟨⟨k + 1, O2, b, by omega, by go_num, rfl, HDK, hro, HFO, Lib.hid hbo⟩, by simp [intOf]; omega⟩
        · have hkn : k = n := by omega
          have HDK := Lib.hid (show DK es N es.length O O2 b from by rw [HL.out, ← hkn]; exact hDK.out)
          have HMS2 := Lib.hid (nFw_eq hrow.out)
          clear hkn
          go_wp2_with fail
          refine ⟨⟨O2, b, rfl, Lib.hid HDK.out.a, Lib.hid (fun hb => ?_), hrow, hF, hbx⟩, ?_⟩
          · subst hb; exact HDK.out.done
          · rw [HMS.out, HMS2.out]
            cases b with
            | false => have := HDK.out.le; simp only; omega
            | true => have := HDK.out.t rfl; simp only; omega
end Go.Proofs.Ytjoejkfchnooaaa
