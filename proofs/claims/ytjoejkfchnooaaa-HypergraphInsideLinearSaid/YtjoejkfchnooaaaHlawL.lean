/-
  The law of doubled weights, walked: it returns true and turns nothing that was there.
-/
import Derived.Test.YtjoejkfchnooaaaHsm
import Derived.Test.YtjoejkfchnooaaaHlin
namespace Go.Proofs.Ytjoejkfchnooaaa
open Go.RowKit
attribute [local go_sem] Oper.lit Oper.litS fut_fut fut_drew World.cell?_alloc_some
attribute [local go_sem] fut_base_drew
theorem node_bd (es : List EI) (O : Nat → Int) (ws : List Int) : ∀ (l : List Nat) (s : Int), (0 ≤ s ∧ s < 65536) → 0 ≤ l.foldl (fun s i => addM s (edgeV mulM es O (ws.getD i 0) i)) s ∧ l.foldl (fun s i => addM s (edgeV mulM es O (ws.getD i 0) i)) s < 65536
  | [], s, h => h
  | x :: l, s, h => by
    rw [List.foldl_cons]
    exact node_bd es O ws l _ ⟨Int.emod_nonneg _ (by decide), Int.emod_lt_of_pos _ (by decide)⟩
theorem ins_bd (es : List EI) (ws : List Int) (n : Nat) : ∀ (l : List Nat) (O : Nat → Int), (∀ v, 0 ≤ O v ∧ O v < 65536) → ∀ v, 0 ≤ l.foldl (insStep 0 0 mulM addM es ws n) O v ∧ l.foldl (insStep 0 0 mulM addM es ws n) O v < 65536
  | [], O, h, v => h v
  | x :: l, O, h, v => by
    rw [List.foldl_cons]
    refine ins_bd es ws n l _ (fun u => ?_) v
    unfold insStep
    by_cases e : u = x
    · subst e; rw [upd_same]; exact node_bd es O ws _ 0 (by decide)
    · rw [upd_other _ _ _ _ e]; exact h u
set_option maxHeartbeats 6400000 in
theorem law_hlin (N node : Int) (A : Option Addr) (n c : Nat) (es : List EI) (w : World) (hnode : 0 ≤ node ∧ node ≤ 255) (hl : es.length = n) (hn : n ≤ maxLen) (hR : RdE w A es) :
    Calls Try.prog 10 #[hv N A n c, .int .u8 node] w fun e w' => e = .returned (.bool true) ∧ Below w.heap.size w w' := by
  obtain ⟨nd, rfl⟩ : ∃ m : Nat, node = m := Int.eq_ofNat_of_zero_le hnode.1
  have hnd : nd ≤ 255 := by omega
  have HN := Lib.hid hn
  have HR := Lib.hid hR
  have HL := Lib.hid hl
  clear hR hl hn hnode
  have HW := Lib.hid ((Fut.refl w).alloc (.cells #[.int .i64 N, .slice A n c] 24))
  have q0 : ∀ dd os, (fut (w.alloc (.cells #[.int .i64 N, .slice A n c] 24)) dd os).cell? ⟨w.heap.size, 0, none⟩ = some (.int .i64 N) := cell_fut (by (first | (with_reducible assumption) | ((try simp (disch := first | (simp only [World.size_alloc, World.size_drew, World.size_setCell]; done) | (simp only [World.size_alloc, World.size_drew, World.size_setCell]; omega) | omega) only [cell_al_new, cell_al_old, cell_dr]); first | (with_reducible assumption) | rfl | (simp; done))))
  have q1 : ∀ dd os, (fut (w.alloc (.cells #[.int .i64 N, .slice A n c] 24)) dd os).cell? ⟨w.heap.size, 1, none⟩ = some (.slice A n c) := cell_fut (by (first | (with_reducible assumption) | ((try simp (disch := first | (simp only [World.size_alloc, World.size_drew, World.size_setCell]; done) | (simp only [World.size_alloc, World.size_drew, World.size_setCell]; omega) | omega) only [cell_al_new, cell_al_old, cell_dr]); first | (with_reducible assumption) | rfl | (simp; done))))
  cases hs : smallB N es with
  | false =>
    have HS := Lib.hid hs
    clear hs
    go_enter Try.func10, Try.ntmps10
    go_wp2_with (first | (go_at_call 11; refine (awake_any _).mono ?_; rintro e w1 ⟨rfl, hb1⟩; obtain ⟨dd, oo, rfl⟩ := fut_of hb1; clear hb1) | (go_at_call 14; refine (small_any N A n c es _ HL.out HN.out (HR.out.fut (HW.out.trans (Fut.fut _ _ _)))).mono ?_; rintro e w2 ⟨rfl, hb2⟩; rw [HS.out]; have f2 : Fut _ w2 := hb2; clear hb2))
    go_ret
    exact ⟨rfl, HW.out.trans ((Fut.fut _ _ _).trans f2)⟩
  | true =>
    obtain ⟨M, rfl, hM, hn60, hval, hsum, hM1, hhd, htl, h4⟩ := small_parts HL.out hs
    have HHD := Lib.hid hhd
    have HTL := Lib.hid htl
    have HS := Lib.hid hs
    have HSUM := Lib.hid hsum
    have HVAL := Lib.hid hval
    obtain ⟨i0, ki, kz0, kz1, kz2⟩ := info_parts info_int
    have hMz : ((M : Int) == 0) = false := by rw [beq_eq_false_iff_ne]; omega
    obtain ⟨vv, hvv⟩ : ∃ vv, nd % M = vv := ⟨_, rfl⟩
    have hvM : vv < M := by rw [← hvv]; exact Nat.mod_lt _ hM1
    have hrem : Int.tmod (nd : Int) (M : Int) = (vv : Int) := by rw [← hvv]; rfl
    clear hs hval hsum hhd htl h4
    go_enter Try.func10, Try.ntmps10
    go_wp2_with (first | (go_at_call 11; refine (awake_any _).mono ?_; rintro e w1 ⟨rfl, hb1⟩; obtain ⟨dd, oo, rfl⟩ := fut_of hb1; clear hb1) | (go_at_call 14; refine (small_any M A n c es _ HL.out HN.out (HR.out.fut (HW.out.trans (Fut.fut _ _ _)))).mono ?_; rintro e w2 ⟨rfl, hb2⟩; rw [HS.out]; obtain ⟨d2, o2, rfl⟩ := fut_of ((Fut.fut _ _ _).trans hb2); clear hb2) | (refine wpList_make_row _ rfl (.tmp 25) (.tmp 25) 32 rfl 3 i0 (.int .i64 0) Try.underlying32 ki kz0 kz1 rfl .i64 .i64 n rfl rfl (by rw [kz2]; omega) (by omega) ?_) | (refine wpList_make_row _ rfl (.tmp 29) (.tmp 29) 32 rfl 3 i0 (.int .i64 0) Try.underlying32 ki kz0 kz1 rfl .i64 .i64 n rfl rfl (by rw [kz2]; omega) (by omega) ?_))
    have x0 := q0 d2 o2
    have x1 := q1 d2 o2
    have HFW := Lib.hid (show Fut w (fut (w.alloc (.cells #[.int .i64 M, .slice A n c] 24)) d2 o2) from HW.out.trans (Fut.fut _ _ _))
    clear q0 q1 hMz hrem
    generalize fut (w.alloc (.cells #[.int .i64 M, .slice A n c] 24)) d2 o2 = w6 at *
    have HROW1 := Lib.hid ((World.rowIs_made w6 (.int .i64 0) n 3).alloc (.cells (madeCells #[.int .i64 0] n) 3))
    have HROW2 := Lib.hid (show ((w6.alloc (.cells (madeCells #[.int .i64 0] n) 3)).alloc (.cells (madeCells #[.int .i64 0] n) 3)).rowIs (w6.heap.size + 1) 3 n (fun _ => .int .i64 0) from by
      have := World.rowIs_made (w6.alloc (.cells (madeCells #[.int .i64 0] n) 3)) (.int .i64 0) n 3
      simpa only [World.size_alloc] using this)
    have HK0 := Lib.hid ((Kp.refl w6).fut (((Fut.refl w6).alloc (.cells (madeCells #[.int .i64 0] n) 3)).alloc (.cells (madeCells #[.int .i64 0] n) 3)))
    have HF0 := Lib.hid ((HFW.out.alloc (.cells (madeCells #[.int .i64 0] n) 3)).alloc (.cells (madeCells #[.int .i64 0] n) 3))
    have hw6 : w.heap.size ≤ w6.heap.size := HFW.out.size
    obtain ⟨d, hdd⟩ : ∃ d, w6.heap.size = d := ⟨_, rfl⟩
    rw [hdd] at HROW1 HROW2 ⊢
    go_loopw [8] (fun i wr => ∃ (k : Nat) (P1 P2 : Nat → Int), k ≤ n ∧ i = .int .i64 k ∧ Hid (wr.rowIs d 3 n (fun i => .int .i64 (P1 i))) ∧ Hid (wr.rowIs (d + 1) 3 n (fun i => .int .i64 (P2 i))) ∧ Hid (Kp w6 wr) ∧ Hid (Fut w wr) ∧ Hid (∀ p, p < k → (1 ≤ P1 p ∧ P1 p ≤ 3) ∧ P2 p = (if headAt es p = vv then 2 * P1 p else P1 p))) (fun i _ => n - (intOf i).toNat)
    case atStart => exact ⟨0, fun _ => 0, fun _ => 0, Nat.zero_le _, rfl, HROW1, HROW2, HK0, HF0, Lib.hid (fun p hp => by omega)⟩
    case round =>
      clear HROW1 HROW2 HK0 HF0
      obtain ⟨k, P1, P2, hk, rfl, hrow1, hrow2, hKp, hF, hP⟩ := hrel
      by_cases hkn : k < n
      · obtain ⟨x, hx⟩ := get_lt HL.out hkn
        obtain ⟨b4, o4, rfl, hc⟩ := HR.out.1 k x hx
        have hxh := HHD.out x (List.mem_of_getElem? hx)
        have hha := headAt_of hx
        have hb1 := hKp.out _ _ x1
        have c00 := hF.out.cell (hc 0 _ (by decide) rfl)
        clear hx
        obtain ⟨xh, xt, xc, xl0, xl1, xA, xk⟩ := x
        simp only at hxh hha c00
        simp only [Nat.add_zero] at c00
        obtain ⟨hd, rfl⟩ : ∃ m : Nat, xh = m := Int.eq_ofNat_of_zero_le hxh.1
        have HHA := Lib.hid (show headAt es k = hd from hha)
        clear hxh hha
        obtain ⟨r, hr⟩ : ∃ r, k % 3 = r := ⟨_, rfl⟩
        have hr3 : r < 3 := by rw [← hr]; exact Nat.mod_lt _ (by decide)
        have hrem : Int.tmod (k : Int) 3 = (r : Int) := by rw [← hr]; rfl
        have hg1 := hrow1.out.cell hkn
        have hg1f := hrow1.out.frozen k
        have hg2 := hrow2.out.cell hkn
        have hg2f := hrow2.out.frozen k
        have hbl4 : b4 < w.heap.size := World.block_lt_of_cell? w _ (hc 0 _ (by decide) rfl)
        have hbw : w.heap.size < d := by have := World.block_lt_of_cell? w6 _ x1; simp only at this; omega
        clear hc
        have hrA := (row_upd (f := Value.int .i64) (O := P1) (i := k) (x := 1 + (r : Int)) hrow1.out).setOther (a := ⟨d + 1, k, none⟩) (by simp) (.int .i64 (1 + (r : Int)))
        have hrB := row_upd (f := Value.int .i64) (O := P2) (i := k) (x := 1 + (r : Int)) (hrow2.out.setOther (a := ⟨d, k, none⟩) (by simp) (.int .i64 (1 + (r : Int))))
        have hA1 := hrA.cell hkn
        simp only [upd_same] at hA1
        have hB1 := hrB.cell hkn
        have hB1f := hrB.frozen k
        have hbx2 : ((wr.setCell ⟨d, k, none⟩ (.int .i64 (1 + (r : Int)))).setCell ⟨d + 1, k, none⟩ (.int .i64 (1 + (r : Int)))).cell? ⟨w.heap.size, 1, none⟩ = some (.slice (some ⟨b4, o4, none⟩) n c) := cell_set (cell_set hb1 (by simp only; omega)) (by simp only; omega)
        have hed2 : ((wr.setCell ⟨d, k, none⟩ (.int .i64 (1 + (r : Int)))).setCell ⟨d + 1, k, none⟩ (.int .i64 (1 + (r : Int)))).cell? ⟨b4, o4 + k * 5, none⟩ = some (.int .i64 hd) := cell_set (cell_set c00 (by simp only; omega)) (by simp only; omega)
        have HRA := Lib.hid hrA
        have HRB := Lib.hid hrB
        have hw1 : IntKind.i64.wrap (2 * (1 + (r : Int))) = 2 * (1 + (r : Int)) := IntWalk.i64_in _ ⟨by omega, by omega⟩
        have hw2 : wrap64 (2 * (1 + (r : Int))) = 2 * (1 + (r : Int)) := IntWalk.wrap64_in _ ⟨by omega, by omega⟩
        clear hrA hrB
        obtain ⟨wi, rfl⟩ : ∃ q, q = wr := ⟨_, rfl⟩
        have HK2 := Lib.hid ((hKp.out.set (a := ⟨d, k, none⟩) (by simp only; omega) (.int .i64 (1 + (r : Int)))).set (a := ⟨d + 1, k, none⟩) (by simp only; omega) (.int .i64 (1 + (r : Int))))
        have HF2 := Lib.hid ((hF.out.setCell (p := ⟨d, k, none⟩) (by simp only; omega) (.int .i64 (1 + (r : Int)))).setCell (p := ⟨d + 1, k, none⟩) (by simp only; omega) (.int .i64 (1 + (r : Int))))
        by_cases hdv : hd = vv
        · have hb : ((hd : Int) == (vv : Int)) = true := by simp [hdv]
          have HDV := Lib.hid hdv
          clear hdv
          go_wp2_with fail
          refine ⟨⟨k + 1, upd P1 k (1 + (r : Int)), upd (upd P2 k (1 + (r : Int))) k (2 * (1 + (r : Int))), by omega, by go_num, Lib.hid (HRA.out.setOther (by simp) _), Lib.hid (row_upd (f := Value.int .i64) HRB.out), Lib.hid (HK2.out.set (by simp only; omega) _), Lib.hid (HF2.out.setCell (by simp only; omega) _), Lib.hid (fun p hp => ?_)⟩, by simp [intOf]; omega⟩
          by_cases e : p = k
          · subst e
            rw [upd_same, upd_same, if_pos (by rw [HHA.out, HDV.out])]
            exact ⟨⟨by omega, by omega⟩, rfl⟩
          · rw [upd_other _ _ _ _ e, upd_other _ _ _ _ e, upd_other _ _ _ _ e]; exact hP.out p (by omega)
        · have hb : ((hd : Int) == (vv : Int)) = false := by rw [beq_eq_false_iff_ne]; omega
          have HDV := Lib.hid hdv
          clear hdv
          go_wp2_with fail
          refine ⟨⟨k + 1, upd P1 k (1 + (r : Int)), upd P2 k (1 + (r : Int)), by omega, by go_num, HRA, HRB, HK2, HF2, Lib.hid (fun p hp => ?_)⟩, by simp [intOf]; omega⟩
          by_cases e : p = k
          · subst e
            rw [upd_same, upd_same, if_neg (by rw [HHA.out]; exact HDV.out)]
            exact ⟨⟨by omega, by omega⟩, rfl⟩
          · rw [upd_other _ _ _ _ e, upd_other _ _ _ _ e]; exact hP.out p (by omega)
      · have hb0 := hKp.out _ _ x0
        have hb1 := hKp.out _ _ x1
        have hkn' : k = n := by omega
        have HR1 := Lib.hid (rd_row (f := Value.int .i64) hrow1.out)
        have HR2 := Lib.hid (rd_row (f := Value.int .i64) hrow2.out)
        have HG1 := Lib.hid (show ∀ i, i < n → ((List.range n).map P1).getD i 0 = P1 i from fun i hi => by rw [List.getD_eq_getElem?_getD, List.getElem?_map, List.getElem?_range hi]; rfl)
        have HG2 := Lib.hid (show ∀ i, i < n → ((List.range n).map P2).getD i 0 = P2 i from fun i hi => by rw [List.getD_eq_getElem?_getD, List.getElem?_map, List.getElem?_range hi]; rfl)
        have HI1 := Lib.hid (show ∀ x ∈ (List.range n).map P1, 0 ≤ x ∧ x < 65536 from fun x hx => by
          obtain ⟨i, hi, rfl⟩ := List.mem_map.1 hx
          have := hP.out i (by have := List.mem_range.1 hi; omega)
          omega)
        have HI2 := Lib.hid (show ∀ x ∈ (List.range n).map P2, 0 ≤ x ∧ x < 65536 from fun x hx => by
          obtain ⟨i, hi, rfl⟩ := List.mem_map.1 hx
          have := hP.out i (by have := List.mem_range.1 hi; omega)
          rw [this.2]; split <;> omega)
        have hl1 : ((List.range n).map P1).length = n := by simp
        have hl2 : ((List.range n).map P2).length = n := by simp
        have HP := Lib.hid (show ∀ p, p < n → (1 ≤ P1 p ∧ P1 p ≤ 3) ∧ P2 p = (if headAt es p = vv then 2 * P1 p else P1 p) from fun p hp => hP.out p (by omega))
        clear hkn'
        obtain ⟨wx, rfl⟩ : ∃ q, q = wr := ⟨_, rfl⟩
        cases hor : ordS es M with
        | none =>
          have HOR := Lib.hid hor
          clear hor
          go_wp2_with (go_at_call 23; first | (refine (inside_nat M A (some ⟨d + 1, 0, none⟩) n c n es ((List.range n).map P2) w7 HL.out hl2 (by omega) HVAL.out HSUM.out (HR.out.fut HF7.out) HR7.out HI2.out).mono ?_; rintro e w8 ⟨he, hb8⟩; rw [HOR.out] at he; obtain rfl := he; have HF8 := Lib.hid (HF7.out.trans hb8); clear hb8) | (refine (inside_nat M A (some ⟨d, 0, none⟩) n c n es ((List.range n).map P1) wx HL.out hl1 (by omega) HVAL.out HSUM.out (HR.out.fut hF.out) HR1.out HI1.out).mono ?_; rintro e w7 ⟨he, hb7⟩; rw [HOR.out] at he; obtain rfl := he; have hy0 := Fut.cell hb7 hb0; have hy1 := Fut.cell hb7 hb1; have HF7 := Lib.hid (hF.out.trans hb7); have HR7 := Lib.hid (HR2.out.fut hb7); clear hb7))
          go_ret
          exact ⟨rfl, HF8.out⟩
        | some lst =>
          have hlin := lin_ins (w1 := (List.range n).map P1) (w2 := (List.range n).map P2) hor hvM (fun i hi hne => by
            rw [HL.out] at hi
            rw [HG1.out i hi, HG2.out i hi, (HP.out i hi).2, if_neg hne]) (fun i hi he => by
            rw [HL.out] at hi
            have := HP.out i hi
            rw [HG1.out i hi, HG2.out i hi, this.2, if_pos he]
            omega)
          rw [HL.out] at hlin
          have hbd := ins_bd es ((List.range n).map P1) n lst (fun _ => 0) (fun _ => by decide) vv
          have HLIN := Lib.hid hlin
          have HBD := Lib.hid hbd
          have HOR := Lib.hid hor
          clear hor hlin hbd
          go_wp2_with (go_at_call 23; first | (refine (inside_nat M A (some ⟨d + 1, 0, none⟩) n c n es ((List.range n).map P2) w7 HL.out hl2 (by omega) HVAL.out HSUM.out (HR.out.fut HF7.out) HR7.out HI2.out).mono ?_; rintro e w8 ⟨he, hb8⟩; rw [HOR.out] at he; obtain ⟨by2, rfl, hry⟩ := he; have hz0 := Fut.cell hb8 hy0; have HF8 := Lib.hid (HF7.out.trans hb8); have HRX8 := Lib.hid (HRX.out.fut hb8); have HRY := Lib.hid hry; clear hb8 hry) | (refine (inside_nat M A (some ⟨d, 0, none⟩) n c n es ((List.range n).map P1) wx HL.out hl1 (by omega) HVAL.out HSUM.out (HR.out.fut hF.out) HR1.out HI1.out).mono ?_; rintro e w7 ⟨he, hb7⟩; rw [HOR.out] at he; obtain ⟨bx, rfl, hrx⟩ := he; have hy0 := Fut.cell hb7 hb0; have hy1 := Fut.cell hb7 hb1; have HF7 := Lib.hid (hF.out.trans hb7); have HR7 := Lib.hid (HR2.out.fut hb7); have HRX := Lib.hid hrx; clear hb7 hrx))
          have hgx : ∀ (b : Nat) (W : World) (O : Nat → Int), Rd1 W (some ⟨b, 0, none⟩) (Value.int .i64) ((List.range M).map O) → W.cell? ⟨b, vv, none⟩ = some (.int .i64 (O vv)) := fun b W O h => by
            obtain ⟨b', o', e1, hc⟩ := h vv (O vv) (by rw [List.getElem?_map, List.getElem?_range hvM]; rfl)
            injection e1 with e1
            injection e1 with e1 e2
            subst e1 e2
            rw [Nat.zero_add] at hc; exact hc
          have hcx := hgx _ _ _ HRX8.out
          have hcy := hgx _ _ _ HRY.out
          have hl3 := HLIN.out
          have hb3 := HBD.out
          change insO 0 0 mulN addN es ((List.range n).map P2) n lst vv = (2 * insO 0 0 mulN addN es ((List.range n).map P1) n lst vv) % 65536 at hl3
          change 0 ≤ insO 0 0 mulN addN es ((List.range n).map P1) n lst vv ∧ insO 0 0 mulN addN es ((List.range n).map P1) n lst vv < 65536 at hb3
          generalize insO 0 0 mulN addN es ((List.range n).map P2) n lst vv = Y at *
          generalize insO 0 0 mulN addN es ((List.range n).map P1) n lst vv = X at *
          have r0 := cell_fut hz0
          have r1 := cell_fut hcx
          have r2 := cell_fut hcy
          have m1 : IntKind.i64.wrap (2 * X) = 2 * X := IntWalk.i64_in _ ⟨by omega, by omega⟩
          have m2 : wrap64 (2 * X) = 2 * X := IntWalk.wrap64_in _ ⟨by omega, by omega⟩
          have m3 : Int.tmod (2 * X) 65536 = Y := by rw [Int.tmod_eq_emod_of_nonneg (by omega)]; exact hl3.symm
          have m4 : (2 * X) % 65536 = Y := hl3.symm
          have m5 : (Y == Y) = true := beq_self_eq_true _
          have m6 : ((M : Int) == (M : Int)) = true := beq_self_eq_true _
          clear hl3 hcx hcy hgx
          refine wp_region_M o_emendatelaw27_HypergraphInsideLinear_18 (by kernel_rfl) (by kernel_rfl) (by intro c a d v w h; cases d <;> exact h) ?_; unfold o_emendatelaw27_HypergraphInsideLinear_18
          repeat (refine wpF_h rfl rfl (fun K hK => ?_); go_simp; refine hK _ _ ?_; clear hK K)
          refine wpF_nil ?_
          go_wp2_with fail
          go_ret
          exact ⟨rfl, HF8.out.drew⟩
end Go.Proofs.Ytjoejkfchnooaaa
