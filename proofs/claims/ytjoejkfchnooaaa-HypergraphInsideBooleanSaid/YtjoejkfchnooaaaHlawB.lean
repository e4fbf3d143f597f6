/-
  The law of Inside over the truth values, walked: it returns true and turns nothing that was there.
-/
import Derived.Test.YtjoejkfchnooaaaHsm
import Derived.Test.YtjoejkfchnooaaaHinsB
import Derived.Test.YtjoejkfchnooaaaHbool
namespace Go.Proofs.Ytjoejkfchnooaaa
open Go.RowKit
attribute [local go_sem] Oper.lit Oper.litS fut_fut fut_drew World.cell?_alloc_some
attribute [local go_sem] fut_base_drew
theorem m_rch_Zero (w : World) : (method 190 52 uu "Zero").run Try.prog w = .ok (61, uu) w := by kernel_rfl
theorem c_rch_Zero (args : Array Value) (w : World) : (callFunc 61 args).run Try.prog w = .ok (.enter 61 args) w := by kernel_rfl
theorem m_rch_Mul (w : World) : (method 190 52 uu "Mul").run Try.prog w = .ok (59, uu) w := by kernel_rfl
theorem c_rch_Mul (args : Array Value) (w : World) : (callFunc 59 args).run Try.prog w = .ok (.enter 59 args) w := by kernel_rfl
theorem m_rch_Add (w : World) : (method 190 52 uu "Add").run Try.prog w = .ok (58, uu) w := by kernel_rfl
theorem c_rch_Add (args : Array Value) (w : World) : (callFunc 58 args).run Try.prog w = .ok (.enter 58 args) w := by kernel_rfl
theorem n_rch_Mul (w : World) : (nilAhead 190 52 uu "Mul").run Try.prog w = .ok (some false) w := by kernel_rfl
theorem rchZero_any (w : World) : Calls Try.prog 61 #[uu] w fun e w' => e = .returned (.bool (false)) ∧ Below w.heap.size w w' := by
  go_enter Try.func61, Try.ntmps61
  go_wp2
  all_goals
    go_returns
    refine ⟨?_, by go_grown⟩
    first | rfl | (simp_all; try omega)
theorem rchMul_any (a b : Bool) (w : World) : Calls Try.prog 59 #[uu, .bool a, .bool b] w fun e w' => e = .returned (.bool (a && b)) ∧ Below w.heap.size w w' := by
  go_enter Try.func59, Try.ntmps59
  go_wp2
  all_goals
    go_returns
    refine ⟨?_, by go_grown⟩
    first | rfl | (simp_all; try omega)
theorem rchAdd_any (a b : Bool) (w : World) : Calls Try.prog 58 #[uu, .bool a, .bool b] w fun e w' => e = .returned (.bool (a || b)) ∧ Below w.heap.size w w' := by
  go_enter Try.func58, Try.ntmps58
  go_wp2
  all_goals
    go_returns
    refine ⟨?_, by go_grown⟩
    first | rfl | (simp_all; try omega)
theorem inside_rch (N : Nat) (A B : Option Addr) (n c d : Nat) (es : List EI) (ws : List Bool) (w : World) (hl : es.length = n) (hwl : ws.length = n) (hn : n ≤ 1000) (hval : validB N es = true) (htot : sumT es n ≤ 1000000) (hR : RdE w A es) (hRw : Rd1 w B (Value.bool ·) ws) :
    Calls Try.prog 27 #[hv N A n c, .iface 52 uu, .slice B n d] w fun e w' => InsRes Value.bool w' e N (insO false false andB orB es ws n) (ordS es N) ∧ Below w.heap.size w w' :=
  insideB_any 52 61 59 58 false andB orB (fun _ => True) m_rch_Zero m_rch_Mul n_rch_Mul m_rch_Add c_rch_Zero c_rch_Mul c_rch_Add rchZero_any (fun a b w _ _ => rchMul_any a b w) (fun a b w _ _ => rchAdd_any a b w)
    trivial trivial (fun _ _ _ _ => trivial) (fun _ _ _ _ => trivial) N A B n c d es ws w hl hwl hn hval htot hR hRw (fun _ _ => trivial)
set_option maxHeartbeats 3200000 in
theorem law_hbool (N : Int) (A : Option Addr) (n c : Nat) (es : List EI) (w : World) (hl : es.length = n) (hn : n ≤ maxLen) (hR : RdE w A es) :
    Calls Try.prog 9 #[hv N A n c] w fun e w' => e = .returned (.bool true) ∧ Below w.heap.size w w' := by
  have HN := Lib.hid hn
  have HR := Lib.hid hR
  have HL := Lib.hid hl
  clear hR hl hn
  have HW := Lib.hid ((Fut.refl w).alloc (.cells #[.int .i64 N, .slice A n c] 24))
  have q0 : ∀ dd os, (fut (w.alloc (.cells #[.int .i64 N, .slice A n c] 24)) dd os).cell? ⟨w.heap.size, 0, none⟩ = some (.int .i64 N) := cell_fut (by (first | (with_reducible assumption) | ((try simp (disch := first | (simp only [World.size_alloc, World.size_drew, World.size_setCell]; done) | (simp only [World.size_alloc, World.size_drew, World.size_setCell]; omega) | omega) only [cell_al_new, cell_al_old, cell_dr]); first | (with_reducible assumption) | rfl | (simp; done))))
  have q1 : ∀ dd os, (fut (w.alloc (.cells #[.int .i64 N, .slice A n c] 24)) dd os).cell? ⟨w.heap.size, 1, none⟩ = some (.slice A n c) := cell_fut (by (first | (with_reducible assumption) | ((try simp (disch := first | (simp only [World.size_alloc, World.size_drew, World.size_setCell]; done) | (simp only [World.size_alloc, World.size_drew, World.size_setCell]; omega) | omega) only [cell_al_new, cell_al_old, cell_dr]); first | (with_reducible assumption) | rfl | (simp; done))))
  cases hs : smallB N es with
  | false =>
    have HS := Lib.hid hs
    clear hs
    go_enter Try.func9, Try.ntmps9
    go_wp2_with (first | (go_at_call 11; refine (awake_any _).mono ?_; rintro e w1 ⟨rfl, hb1⟩; obtain ⟨dd, oo, rfl⟩ := fut_of hb1; clear hb1) | (go_at_call 14; refine (small_any N A n c es _ HL.out HN.out (HR.out.fut (HW.out.trans (Fut.fut _ _ _)))).mono ?_; rintro e w2 ⟨rfl, hb2⟩; rw [HS.out]; have f2 : Fut _ w2 := hb2; clear hb2))
    go_ret
    exact ⟨rfl, HW.out.trans ((Fut.fut _ _ _).trans f2)⟩
  | true =>
    obtain ⟨M, rfl, hM, hn60, hval, hsum, hM1, hhd, htl, h4⟩ := small_parts HL.out hs
    have HHD := Lib.hid hhd
    have HTL := Lib.hid htl
    have HS := Lib.hid hs
    have HSUM := Lib.hid hsum
    have HVAL := Lib.hid hval
    have hMm : M ≤ maxLen := by unfold maxLen; omega
    obtain ⟨i0, ki, kz0, kz1, kz2⟩ := info_parts info_bool
    clear hs hval hsum hhd htl h4
    go_enter Try.func9, Try.ntmps9
    go_wp2_with (first | (go_at_call 11; refine (awake_any _).mono ?_; rintro e w1 ⟨rfl, hb1⟩; obtain ⟨dd, oo, rfl⟩ := fut_of hb1; clear hb1) | (go_at_call 14; refine (small_any M A n c es _ HL.out HN.out (HR.out.fut (HW.out.trans (Fut.fut _ _ _)))).mono ?_; rintro e w2 ⟨rfl, hb2⟩; rw [HS.out]; obtain ⟨d2, o2, rfl⟩ := fut_of ((Fut.fut _ _ _).trans hb2); clear hb2) | (refine wpList_make_row _ rfl (.tmp 14) (.tmp 14) 28 rfl 4 i0 (.bool false) Try.underlying28 ki kz0 kz1 rfl .i64 .i64 n rfl rfl (by rw [kz2]; omega) (by omega) ?_))
    have x0 := q0 d2 o2
    have x1 := q1 d2 o2
    have HFW := Lib.hid (show Fut w (fut (w.alloc (.cells #[.int .i64 M, .slice A n c] 24)) d2 o2) from HW.out.trans (Fut.fut _ _ _))
    clear q0 q1
    generalize fut (w.alloc (.cells #[.int .i64 M, .slice A n c] 24)) d2 o2 = w6 at *
    have HROW := Lib.hid (World.rowIs_made w6 (.bool false) n 4)
    have HK0 := Lib.hid ((Kp.refl w6).fut ((Fut.refl w6).alloc (.cells (madeCells #[.bool false] n) 4)))
    have HF0 := Lib.hid (HFW.out.alloc (.cells (madeCells #[.bool false] n) 4))
    have hw6 : w.heap.size ≤ w6.heap.size := HFW.out.size
    obtain ⟨d, hdd⟩ : ∃ d, w6.heap.size = d := ⟨_, rfl⟩
    rw [hdd] at HROW ⊢
    go_loopw [4] (fun i wr => ∃ (k : Nat) (P : Nat → Bool), k ≤ n ∧ i = .int .i64 k ∧ Hid (wr.rowIs d 4 n (fun i => .bool (P i))) ∧ Hid (Kp w6 wr) ∧ Hid (Fut w wr) ∧ Hid (∀ p, p < k → P p = true)) (fun i _ => n - (intOf i).toNat)
    case atStart => exact ⟨0, fun _ => false, Nat.zero_le _, rfl, HROW, HK0, HF0, Lib.hid (fun p hp => by omega)⟩
    case round =>
      clear HROW HK0 HF0
      obtain ⟨k, P, hk, rfl, hrow, hKp, hF, hP⟩ := hrel
      by_cases hkn : k < n
      · have hcd := hrow.out.cell hkn
        have hfd := hrow.out.frozen k
        have HP2 := Lib.hid (show ∀ p, p < k + 1 → upd P k true p = true from fun p hp => by
          by_cases e : p = k
          · subst e; exact upd_same _ _ _
          · rw [upd_other _ _ _ _ e]; exact hP.out p (by omega))
        obtain ⟨wi, rfl⟩ : ∃ q, q = wr := ⟨_, rfl⟩
        go_wp2_with fail
        exact ⟨⟨k + 1, upd P k true, by omega, by go_num, Lib.hid (row_upd (f := Value.bool) hrow.out), Lib.hid (hKp.out.set (by simp only; omega) _), Lib.hid (hF.out.setCell (by simp only; omega) _), HP2⟩, by simp [intOf]; omega⟩
      · have hb0 := hKp.out _ _ x0
        have hb1 := hKp.out _ _ x1
        have HRW := Lib.hid (show Rd1 wr (some ⟨d, 0, none⟩) (Value.bool ·) (trueL es.length) from by
          have h1 := rd_row (f := Value.bool) hrow.out
          have h2 : (List.range n).map P = trueL es.length := by
            rw [HL.out]
            exact List.map_congr_left (fun i hi => hP.out i (by have := List.mem_range.1 hi; omega))
          rw [h2] at h1; exact h1)
        have hwl : (trueL es.length).length = n := by unfold trueL; rw [List.length_map, List.length_range, HL.out]
        obtain ⟨wx, rfl⟩ : ∃ q, q = wr := ⟨_, rfl⟩
        cases hor : ordS es M with
        | none =>
          have HOR := Lib.hid hor
          clear hor
          go_wp2_with (go_at_call 27; refine (inside_rch M A (some ⟨d, 0, none⟩) n c n es (trueL es.length) _ HL.out hwl (by omega) HVAL.out HSUM.out (HR.out.fut hF.out) HRW.out).mono ?_; rintro e w7 ⟨he, hb7⟩; rw [HOR.out] at he; obtain rfl := he; have HF7 := Lib.hid (hF.out.trans hb7); clear hb7)
          go_ret
          exact ⟨rfl, HF7.out⟩
        | some lst =>
          have HDL := Lib.hid (ins_derL hor (tl_lt HTL.out))
          have HOR := Lib.hid hor
          clear hor
          go_wp2_with (first | (go_at_call 27; refine (inside_rch M A (some ⟨d, 0, none⟩) n c n es (trueL es.length) _ HL.out hwl (by omega) HVAL.out HSUM.out (HR.out.fut hF.out) HRW.out).mono ?_; rintro e w7 ⟨he, hb7⟩; rw [HOR.out] at he; obtain ⟨b7, rfl, hr7⟩ := he; rw [← HL.out, HDL.out] at hr7; have hy0 := Fut.cell hb7 hb0; have hy1 := Fut.cell hb7 hb1; have HF7 := Lib.hid (hF.out.trans hb7); have HR7 := Lib.hid hr7; clear hb7 hr7) | (go_at_call 16; refine (derive_any M A n c es _ HL.out (by omega) (by omega) HHD.out HTL.out HSUM.out (HR.out.fut HF7.out)).mono ?_; rintro e w8 ⟨b8, rfl, hr8, hb8⟩; have HR8 := Lib.hid hr8; have HR7b := Lib.hid (HR7.out.fut hb8); have HF8 := Lib.hid (HF7.out.trans hb8); clear hr8 hb8) | (go_at_call 15; refine (sameBools_any (some ⟨b7, 0, none⟩) (some ⟨b8, 0, none⟩) M M M M (derL es M) (derL es M) _ (derL_len _ _) (derL_len _ _) hMm hMm HR7b.out HR8.out).mono ?_; rintro e w9 ⟨rfl, hb9⟩; rw [decide_eq_true (rfl : derL es M = derL es M)]; have HF9 := Lib.hid (HF8.out.trans hb9); clear hb9))
          go_ret
          exact ⟨rfl, HF9.out⟩
end Go.Proofs.Ytjoejkfchnooaaa
