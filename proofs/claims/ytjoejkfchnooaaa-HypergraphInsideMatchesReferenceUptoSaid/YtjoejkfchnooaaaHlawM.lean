/-
  The law of inside values, walked: it returns true and turns nothing that was there.
-/
import Derived.Test.YtjoejkfchnooaaaHbad
import Derived.Laws.BitsLemmas
namespace Go.Proofs.Ytjoejkfchnooaaa
open Go.RowKit
attribute [local go_sem] Oper.lit Oper.litS fut_fut fut_drew World.cell?_alloc_some
attribute [local go_sem] fut_base_drew
theorem mask16 (n : Int) : bits .and .i64 n 65535 = n % 65536 := by
  have h : (BitVec.ofInt 64 65535).toNat = 2 ^ 16 - 1 := by decide
  have key : (BitVec.ofInt 64 n &&& BitVec.ofInt 64 65535).toNat = (n % ((2 ^ 64 : Nat) : Int)).toNat % 2 ^ 16 := by
    rw [BitVec.toNat_and, BitVec.toNat_ofInt, h, Nat.and_two_pow_sub_one_eq_mod]
  show IntKind.i64.wrap ((BitVec.ofInt 64 n &&& BitVec.ofInt 64 65535).toNat : Nat) = n % 65536
  rw [key, IntKind.wrap_i64]
  omega
set_option maxHeartbeats 6400000 in
set_option maxRecDepth 4000 in
theorem law_hmatch (N : Int) (A B : Option Addr) (n c m d : Nat) (es : List EI) (ws : List Int) (w : World) (hl : es.length = n) (hn : n ≤ maxLen) (hwl : ws.length = m) (hm : m ≤ 2000000) (hsum : sumT es n ≤ 2000000) (hR : RdE w A es) (hRw : Rd1 w B (.int .i64 ·) ws) :
    Calls Try.prog 7 #[hv N A n c, .slice B m d] w fun e w' => e = .returned (.bool true) ∧ Below w.heap.size w w' := by
  have HN := Lib.hid hn
  have HR := Lib.hid hR
  have HRW := Lib.hid hRw
  have HL := Lib.hid hl
  have HWL := Lib.hid hwl
  have HSUM := Lib.hid hsum
  clear hR hRw hl hn hwl hsum
  have HW := Lib.hid ((Fut.refl w).alloc (.cells #[.int .i64 N, .slice A n c] 24))
  have q0 : ∀ dd os, (fut (w.alloc (.cells #[.int .i64 N, .slice A n c] 24)) dd os).cell? ⟨w.heap.size, 0, none⟩ = some (.int .i64 N) := cell_fut (by (first | (with_reducible assumption) | ((try simp (disch := first | (simp only [World.size_alloc, World.size_drew, World.size_setCell]; done) | (simp only [World.size_alloc, World.size_drew, World.size_setCell]; omega) | omega) only [cell_al_new, cell_al_old, cell_dr]); first | (with_reducible assumption) | rfl | (simp; done))))
  have q1 : ∀ dd os, (fut (w.alloc (.cells #[.int .i64 N, .slice A n c] 24)) dd os).cell? ⟨w.heap.size, 1, none⟩ = some (.slice A n c) := cell_fut (by (first | (with_reducible assumption) | ((try simp (disch := first | (simp only [World.size_alloc, World.size_drew, World.size_setCell]; done) | (simp only [World.size_alloc, World.size_drew, World.size_setCell]; omega) | omega) only [cell_al_new, cell_al_old, cell_dr]); first | (with_reducible assumption) | rfl | (simp; done))))
  by_cases hbig : 60 < n
  · go_enter Try.func7, Try.ntmps7
    go_wp2_with (go_at_call 11; refine (awake_any _).mono ?_; rintro e w1 ⟨rfl, hb1⟩; obtain ⟨dd, oo, rfl⟩ := fut_of hb1; clear hb1)
    go_ret
    exact ⟨rfl, HW.out.trans (Fut.fut _ _ _)⟩
  by_cases hNb : 30 < N
  · go_enter Try.func7, Try.ntmps7
    go_wp2_with (go_at_call 11; refine (awake_any _).mono ?_; rintro e w1 ⟨rfl, hb1⟩; obtain ⟨dd, oo, rfl⟩ := fut_of hb1; clear hb1)
    go_ret
    exact ⟨rfl, HW.out.trans (Fut.fut _ _ _)⟩
  go_enter Try.func7, Try.ntmps7
  go_wp2_with (go_at_call 11; refine (awake_any _).mono ?_; rintro e w1 ⟨rfl, hb1⟩; obtain ⟨d2, o2, rfl⟩ := fut_of hb1; clear hb1)
  have x0 := q0 d2 o2
  have x1 := q1 d2 o2
  have HFW := Lib.hid (show Fut w (fut (w.alloc (.cells #[.int .i64 N, .slice A n c] 24)) d2 o2) from HW.out.trans (Fut.fut _ _ _))
  clear q0 q1
  generalize fut (w.alloc (.cells #[.int .i64 N, .slice A n c] 24)) d2 o2 = w6 at *
  go_loopw [5, 6] (fun lv i wr => ∃ (k : Nat) (us : List Nat), k ≤ m ∧ i = .int .i64 k ∧ us.length = k ∧ Hid (∀ x ∈ us, x < 65536) ∧ Hid (Own wr w6.heap.size lv us) ∧ Hid (Fut w6 wr)) (fun _ i _ => m - (intOf i).toNat)
  case atStart => exact ⟨0, [], Nat.zero_le _, rfl, rfl, Lib.hid (by simp), Lib.hid (Own.nil _ _), Lib.hid (Fut.refl _)⟩
  case round =>
    obtain ⟨k, us, hk, rfl, hul, hus, hown, hF⟩ := hrel
    obtain ⟨la, lc, hlv, hla⟩ := hown.out.form
    subst hlv
    have hb1 := hF.out.cell x1
    have hb0 := hF.out.cell x0
    obtain ⟨wx, rfl⟩ : ∃ q, q = wr := ⟨_, rfl⟩
    by_cases hkn : k < m
    · obtain ⟨y, hy⟩ := get_lt HWL.out hkn
      obtain ⟨b5, o5, rfl, hcw⟩ := HRW.out k y hy
      have hcw2 := (HFW.out.trans hF.out).cell hcw
      have hsz := hF.out.size
      have HUL := Lib.hid hul
      clear hul hy hcw
      obtain ⟨u, hu⟩ : ∃ u : Nat, y % 65536 = u := Int.eq_ofNat_of_zero_le (Int.emod_nonneg _ (by decide))
      have hu2 : u < 65536 := by have := Int.emod_lt_of_pos y (show (0 : Int) < 65536 by decide); omega
      have hbt : bits .and .i64 y 65535 = (u : Int) := by rw [mask16, hu]
      clear hu
      go_wp2_with (at_builtin; refine wpList_push rfl (.tmp 28) (.tmp 34) rfl w6.heap.size _ us rfl (hown.out.alloc _) wx.heap.size u rfl (heap_alloc_new _ _) (by rw [HUL.out]; omega) (by rw [World.size_alloc]; omega) ?_; intro g2 cp2 w2 hown2 hgr2 _; have HOWN2 := Lib.hid hown2; have HGR2 := Lib.hid hgr2; clear hown2 hgr2)
      have hlk : us.length = k := HUL.out
      refine ⟨⟨k + 1, _, by omega, by go_num, by rw [List.length_append, hlk]; rfl, Lib.hid (fun x hx => ?_), HOWN2, Lib.hid (Below.grown (hF.out.alloc _) HGR2.out (by rw [World.size_alloc]; omega) (fun q hq => (hown.out.lt q hq).1))⟩, by simp [intOf]; omega⟩
      rcases List.mem_append.1 hx with hx | hx
      · exact hus.out x hx
      · simp only [List.mem_singleton] at hx
        subst hx
        exact hu2
    · have hkm : k = m := by omega
      have hum : us.length = m := hul.trans hkm
      have HR1 := Lib.hid (rd_cast hown.out.rd.2)
      have HUL := Lib.hid (show (us.map (fun x : Nat => (x : Int))).length = m by rw [List.length_map]; exact hum)
      have HUS := Lib.hid (show ∀ x ∈ us.map (fun x : Nat => (x : Int)), 0 ≤ x ∧ x < 65536 from fun x hx => by
        obtain ⟨y, hy, rfl⟩ := List.mem_map.1 hx
        have := hus.out y hy
        omega)
      have HFN := Lib.hid (HFW.out.trans hF.out)
      clear hkm hul
      rw [hum]
      clear hum
      generalize us.map (fun x : Nat => (x : Int)) = vs at *
      by_cases hgood : validB N es = true ∧ m = n
      · obtain ⟨hval, hmn⟩ := hgood
        obtain ⟨hN1, hN2, _, _⟩ := (show 1 ≤ N ∧ N ≤ 1048576 ∧ True ∧ True from by
          unfold validB at hval
          simp only [Bool.and_eq_true, decide_eq_true_eq] at hval
          exact ⟨hval.1.1, hval.1.2, trivial, trivial⟩)
        obtain ⟨M, rfl⟩ : ∃ M : Nat, N = M := Int.eq_ofNat_of_zero_le (by omega)
        subst hmn
        have HVAL := Lib.hid hval
        clear hval
        cases hor : ordS es M with
        | none =>
          have HOR := Lib.hid hor
          clear hor
          go_wp2_with (first | (go_at_call 23; refine (inside_nat M A la m c lc es vs wx HL.out HUL.out (by omega) HVAL.out HSUM.out (HR.out.fut HFN.out) HR1.out HUS.out).mono ?_; rintro e w7 ⟨he, hb7⟩; rw [HOR.out] at he; obtain rfl := he; have hy0 := Fut.cell hb7 hb0; have hy1 := Fut.cell hb7 hb1; have HF7 := Lib.hid (HFN.out.trans hb7); have HR7 := Lib.hid (HR1.out.fut hb7); clear hb7) | (go_at_call 24; refine (rNat_any M A la m c lc es vs w7 HL.out HUL.out (by omega) HVAL.out (HR.out.fut HF7.out) HR7.out HUS.out).mono ?_; rintro e w8 ⟨he, hb8⟩; rw [HOR.out] at he; obtain rfl := he; have HF8 := Lib.hid (HF7.out.trans hb8); clear hb8) | (go_at_call 22; refine (sameInts_any none none 0 0 0 0 [] [] _ rfl rfl (by decide) (by decide) Rd1.nil Rd1.nil).mono ?_; rintro e w9 ⟨rfl, hb9⟩; rw [show decide (([] : List Int) = []) = true from rfl]; have HF9 := Lib.hid (HF8.out.trans hb9); clear hb9))
          go_ret
          exact ⟨rfl, HF9.out⟩
        | some lst =>
          have HOR := Lib.hid hor
          have hMm : M ≤ maxLen := by unfold maxLen; omega
          clear hor
          go_wp2_with (first | (go_at_call 23; refine (inside_nat M A la m c lc es vs wx HL.out HUL.out (by omega) HVAL.out HSUM.out (HR.out.fut HFN.out) HR1.out HUS.out).mono ?_; rintro e w7 ⟨he, hb7⟩; rw [HOR.out] at he; obtain ⟨bx, rfl, hrx⟩ := he; have hy0 := Fut.cell hb7 hb0; have hy1 := Fut.cell hb7 hb1; have HF7 := Lib.hid (HFN.out.trans hb7); have HR7 := Lib.hid (HR1.out.fut hb7); have HRX := Lib.hid hrx; clear hb7 hrx) | (go_at_call 24; refine (rNat_any M A la m c lc es vs w7 HL.out HUL.out (by omega) HVAL.out (HR.out.fut HF7.out) HR7.out HUS.out).mono ?_; rintro e w8 ⟨he, hb8⟩; rw [HOR.out] at he; obtain ⟨by2, rfl, hry⟩ := he; have HF8 := Lib.hid (HF7.out.trans hb8); have HRX8 := Lib.hid (HRX.out.fut hb8); have HRY := Lib.hid hry; clear hb8 hry) | (go_at_call 22; refine (sameInts_any (some ⟨bx, 0, none⟩) (some ⟨by2, 0, none⟩) M M M M ((List.range M).map (insO 0 0 mulN addN es vs m lst)) ((List.range M).map (insO 0 0 mulN addN es vs m lst)) _ (by simp) (by simp) hMm hMm HRX8.out HRY.out).mono ?_; rintro e w9 ⟨rfl, hb9⟩; rw [decide_eq_true (rfl : (List.range M).map (insO 0 0 mulN addN es vs m lst) = (List.range M).map (insO 0 0 mulN addN es vs m lst))]; have HF9 := Lib.hid (HF8.out.trans hb9); clear hb9))
          go_ret
          exact ⟨rfl, HF9.out⟩
      · have HBAD := Lib.hid (show validB N es = false ∨ m ≠ n from by
          cases hv0 : validB N es with
          | false => exact .inl rfl
          | true => exact .inr (fun e => hgood ⟨hv0, e⟩))
        clear hgood
        go_wp2_with (first | (go_at_call 23; refine (insideI_bad _ N A la n c m lc es wx HL.out HN.out HBAD.out (HR.out.fut HFN.out)).mono ?_; rintro e w7 ⟨rfl, hb7⟩; have hy0 := Fut.cell hb7 hb0; have hy1 := Fut.cell hb7 hb1; have HF7 := Lib.hid (HFN.out.trans hb7); clear hb7) | (go_at_call 24; refine (rNat_bad N A la n c m lc es w7 HL.out HN.out HBAD.out (HR.out.fut HF7.out)).mono ?_; rintro e w8 ⟨rfl, hb8⟩; have HF8 := Lib.hid (HF7.out.trans hb8); clear hb8) | (go_at_call 22; refine (sameInts_any none none 0 0 0 0 [] [] _ rfl rfl (by decide) (by decide) Rd1.nil Rd1.nil).mono ?_; rintro e w9 ⟨rfl, hb9⟩; rw [show decide (([] : List Int) = []) = true from rfl]; have HF9 := Lib.hid (HF8.out.trans hb9); clear hb9))
        go_ret
        exact ⟨rfl, HF9.out⟩
end Go.Proofs.Ytjoejkfchnooaaa
