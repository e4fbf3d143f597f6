/-
  The law of orders, walked: it returns true and turns nothing that was there.
-/
import Derived.Test.YtjoejkfchnooaaaHsm
import Derived.Test.YtjoejkfchnooaaaHrord
import Derived.Test.YtjoejkfchnooaaaHtop
namespace Go.Proofs.Ytjoejkfchnooaaa
open Go.RowKit
attribute [local go_sem] Oper.lit Oper.litS fut_fut fut_drew World.cell?_alloc_some
attribute [local go_sem] fut_base_drew
set_option maxHeartbeats 6400000 in
theorem law_horder (N : Int) (A : Option Addr) (n c : Nat) (es : List EI) (w : World) (hl : es.length = n) (hn : n ≤ maxLen) (hR : RdE w A es) :
    Calls Try.prog 6 #[hv N A n c] w fun e w' => e = .returned (.bool true) ∧ Below w.heap.size w w' := by
  have HN := Lib.hid hn
  have HR := Lib.hid hR
  have HL := Lib.hid hl
  clear hR hl hn
  have HW := Lib.hid ((Fut.refl w).alloc (.cells #[.int .i64 N, .slice A n c] 24))
  have q0 : ∀ dd os, (fut (w.alloc (.cells #[.int .i64 N, .slice A n c] 24)) dd os).cell? ⟨w.heap.size, 0, none⟩ = some (.int .i64 N) := cell_fut (by (first | (with_reducible assumption) | ((try simp (disch := first | (simp only [World.size_alloc, World.size_drew, World.size_setCell]; done) | (simp only [World.size_alloc, World.size_drew, World.size_setCell]; omega) | omega) only [cell_al_new, cell_al_old, cell_dr]); first | (with_reducible assumption) | rfl | (simp; done))))
  have q1 : ∀ dd os, (fut (w.alloc (.cells #[.int .i64 N, .slice A n c] 24)) dd os).cell? ⟨w.heap.size, 1, none⟩ = some (.slice A n c) := cell_fut (by (first | (with_reducible assumption) | ((try simp (disch := first | (simp only [World.size_alloc, World.size_drew, World.size_setCell]; done) | (simp only [World.size_alloc, World.size_drew, World.size_setCell]; omega) | omega) only [cell_al_new, cell_al_old, cell_dr]); first | (with_reducible assumption) | rfl | (simp; done))))
  cases hs : smallB N es with
  | false =>
    have HS := Lib.hid hs
    clear hs
    go_enter Try.func6, Try.ntmps6
    go_wp2_with (first | (go_at_call 11; refine (awake_any _).mono ?_; rintro e w1 ⟨rfl, hb1⟩; obtain ⟨dd, oo, rfl⟩ := fut_of hb1; clear hb1) | (go_at_call 14; refine (small_any N A n c es _ HL.out HN.out (HR.out.fut (HW.out.trans (Fut.fut _ _ _)))).mono ?_; rintro e w2 ⟨rfl, hb2⟩; rw [HS.out]; have f2 : Fut _ w2 := hb2; clear hb2))
    go_ret
    exact ⟨rfl, HW.out.trans ((Fut.fut _ _ _).trans f2)⟩
  | true =>
    obtain ⟨M, rfl, hM, hn60, hval, hsum, hM1, hhd, htl, h4⟩ := small_parts HL.out hs
    have HHD := Lib.hid hhd
    have HTL := Lib.hid htl
    have HS := Lib.hid hs
    have HSUM := Lib.hid hsum
    have hMm : M ≤ maxLen := by unfold maxLen; omega
    obtain ⟨i1, ki, kz0, kz1, kz2⟩ := info_parts info_int
    clear hs hval hsum hhd htl h4
    go_enter Try.func6, Try.ntmps6
    cases hor : ordS es M with
    | none =>
      have HOR := Lib.hid hor
      clear hor
      go_wp2_with (first | (go_at_call 11; refine (awake_any _).mono ?_; rintro e w1 ⟨rfl, hb1⟩; obtain ⟨dd, oo, rfl⟩ := fut_of hb1; clear hb1) | (go_at_call 14; refine (small_any M A n c es _ HL.out HN.out (HR.out.fut (HW.out.trans (Fut.fut _ _ _)))).mono ?_; rintro e w2 ⟨rfl, hb2⟩; rw [HS.out]; obtain ⟨d2, o2, rfl⟩ := fut_of ((Fut.fut _ _ _).trans hb2); clear hb2) | (go_at_call 20; refine (order_any M A n c es _ HL.out (by omega) (by omega) HHD.out HTL.out HSUM.out (HR.out.fut (HW.out.trans (Fut.fut _ _ _)))).mono ?_; rintro e w3 ⟨he, hb3⟩; rw [HOR.out] at he; obtain rfl := he; obtain ⟨d3, o3, rfl⟩ := fut_of ((Fut.fut _ _ _).trans hb3); clear hb3) | (go_at_call 21; refine (rOrder_any M A n c es _ HL.out (by omega) (by omega) HHD.out HTL.out (HR.out.fut (HW.out.trans (Fut.fut _ _ _)))).mono ?_; rintro e w4 ⟨he, hb4⟩; rw [HOR.out] at he; obtain rfl := he; obtain ⟨d4, o4, rfl⟩ := fut_of ((Fut.fut _ _ _).trans hb4); clear hb4) | (go_at_call 22; refine (sameInts_any none none 0 0 0 0 [] [] _ rfl rfl (by decide) (by decide) Rd1.nil Rd1.nil).mono ?_; rintro e w5 ⟨rfl, hb5⟩; rw [show decide (([] : List Int) = []) = true from rfl]; obtain ⟨d5, o5, rfl⟩ := fut_of ((Fut.fut _ _ _).trans hb5); clear hb5) | (refine wpList_make_row _ rfl (.tmp 36) (.tmp 36) 32 rfl 3 i1 (.int .i64 0) Try.underlying32 ki kz0 kz1 rfl .i64 .i64 M rfl rfl (by rw [kz2]; omega) (by omega) ?_))
      have HWX := Lib.hid (show Fut w ((fut (w.alloc (.cells #[.int .i64 M, .slice A n c] 24)) d5 o5).alloc (.cells (madeCells #[.int .i64 0] M) 3)) from (HW.out.trans (Fut.fut _ _ _)).alloc _)
      have g1 : ((fut (w.alloc (.cells #[.int .i64 M, .slice A n c] 24)) d5 o5).alloc (.cells (madeCells #[.int .i64 0] M) 3)).cell? ⟨w.heap.size, 1, none⟩ = some (.slice A n c) := ((Fut.refl _).alloc _).cell (q1 d5 o5)
      generalize (fut (w.alloc (.cells #[.int .i64 M, .slice A n c] 24)) d5 o5).alloc (.cells (madeCells #[.int .i64 0] M) 3) = wx at *
      go_loopw [8] (fun i wr => i = .int .i64 0 ∧ wr = wx) (fun i _ => 0)
      case atStart => exact ⟨rfl, rfl⟩
      case round =>
        obtain ⟨rfl, rfl⟩ := hrel
        go_wp2_with fail
        obtain ⟨wy, hwy⟩ : ∃ q, q = wr := ⟨_, rfl⟩
        subst hwy
        go_loopw [9] (fun i w2 => i = .int .i64 0 ∧ w2 = wy) (fun i _ => 0)
        case atStart => exact ⟨rfl, rfl⟩
        case round =>
          obtain ⟨rfl, rfl⟩ := hrel
          by_cases hn0 : 0 < n
          · go_wp2_with fail
            go_ret
            exact ⟨rfl, HWX.out⟩
          · go_wp2_with fail
            go_ret
            exact ⟨rfl, HWX.out⟩
    | some lst =>
      have hls := ordS_top hor
      have HOR := Lib.hid hor
      have HLT := Lib.hid hls.2.1
      have HINJ := Lib.hid hls.2.2.1
      have HALL := Lib.hid hls.2.2.2.1
      have HTOP := Lib.hid hls.2.2.2.2
      have hlM : lst.length = M := hls.1
      clear hor hls
      go_wp2_with (first | (go_at_call 11; refine (awake_any _).mono ?_; rintro e w1 ⟨rfl, hb1⟩; obtain ⟨dd, oo, rfl⟩ := fut_of hb1; clear hb1) | (go_at_call 14; refine (small_any M A n c es _ HL.out HN.out (HR.out.fut (HW.out.trans (Fut.fut _ _ _)))).mono ?_; rintro e w2 ⟨rfl, hb2⟩; rw [HS.out]; obtain ⟨d2, o2, rfl⟩ := fut_of ((Fut.fut _ _ _).trans hb2); clear hb2) | (go_at_call 20; refine (order_any M A n c es _ HL.out (by omega) (by omega) HHD.out HTL.out HSUM.out (HR.out.fut (HW.out.trans (Fut.fut _ _ _)))).mono ?_; rintro e w3 ⟨he, hb3⟩; rw [HOR.out] at he; obtain ⟨oA, oc, rfl, hol⟩ := he; rw [hlM]; obtain ⟨d3, o3, rfl⟩ := fut_of ((Fut.fut _ _ _).trans hb3); have HOL := Lib.hid hol; clear hb3 hol) | (go_at_call 21; refine (rOrder_any M A n c es _ HL.out (by omega) (by omega) HHD.out HTL.out (HR.out.fut (HW.out.trans (Fut.fut _ _ _)))).mono ?_; rintro e w4 ⟨he, hb4⟩; rw [HOR.out] at he; obtain ⟨pA, pc, rfl, hpl⟩ := he; rw [hlM]; have HOL4 := Lib.hid (HOL.out.fut hb4); obtain ⟨d4, o4, rfl⟩ := fut_of ((Fut.fut _ _ _).trans hb4); have HPL := Lib.hid hpl; clear hb4 hpl) | (go_at_call 22; refine (sameInts_any oA pA M oc M pc (lst.map (fun x : Nat => (x : Int))) (lst.map (fun x : Nat => (x : Int))) _ (by rw [List.length_map]; exact hlM) (by rw [List.length_map]; exact hlM) hMm hMm (rd_cast HOL4.out) (rd_cast HPL.out)).mono ?_; rintro e w5 ⟨rfl, hb5⟩; rw [decide_eq_true (rfl : lst.map (fun x : Nat => (x : Int)) = lst.map (fun x : Nat => (x : Int)))]; have HOL5 := Lib.hid (HOL4.out.fut hb5); obtain ⟨d5, o5, rfl⟩ := fut_of ((Fut.fut _ _ _).trans hb5); clear hb5) | (refine wpList_make_row _ rfl (.tmp 36) (.tmp 36) 32 rfl 3 i1 (.int .i64 0) Try.underlying32 ki kz0 kz1 rfl .i64 .i64 M rfl rfl (by rw [kz2]; omega) (by omega) ?_))
      have hq1 := q1 d5 o5
      have HFW := Lib.hid (show Fut w (fut (w.alloc (.cells #[.int .i64 M, .slice A n c] 24)) d5 o5) from HW.out.trans (Fut.fut _ _ _))
      have HOX := Lib.hid HOL5.out
      clear HOL HOL4 HPL HOL5 q0 q1
      generalize fut (w.alloc (.cells #[.int .i64 M, .slice A n c] 24)) d5 o5 = w6 at *
      have HROW := Lib.hid (World.rowIs_made w6 (.int .i64 0) M 3)
      have HK0 := Lib.hid ((Kp.refl w6).fut ((Fut.refl w6).alloc (.cells (madeCells #[.int .i64 0] M) 3)))
      have HF0 := Lib.hid (HFW.out.alloc (.cells (madeCells #[.int .i64 0] M) 3))
      have hw6 : w.heap.size ≤ w6.heap.size := HFW.out.size
      obtain ⟨d, hdd⟩ : ∃ d, w6.heap.size = d := ⟨_, rfl⟩
      rw [hdd] at HROW ⊢
      go_loopw [8] (fun i wr => ∃ (k : Nat) (P : Nat → Nat), k ≤ M ∧ i = .int .i64 k ∧ Hid (wr.rowIs d 3 M (fun i => nv (P i))) ∧ Hid (Kp w6 wr) ∧ Hid (Fut w wr) ∧ Hid (∀ p, p < k → ∀ v, lst[p]? = some v → P v = p) ∧ Hid (∀ v, P v ≤ 30)) (fun i _ => M - (intOf i).toNat)
      case atStart => exact ⟨0, fun _ => 0, Nat.zero_le _, rfl, HROW, HK0, HF0, Lib.hid (fun p hp => by omega), Lib.hid (fun _ => Nat.zero_le 30)⟩
      case round =>
        clear HROW HK0 HF0
        obtain ⟨k, P, hk, rfl, hrow, hKp, hF, hP, hPb⟩ := hrel
        have hbx := hKp.out _ _ hq1
        by_cases hkM : k < M
        · obtain ⟨v, hv⟩ := get_lt hlM hkM
          obtain ⟨b3, o3, rfl, hcv⟩ := HOX.out k v hv
          have hcv2 := hKp.out _ _ hcv
          have hvM := HLT.out v (List.mem_of_getElem? hv)
          have hcd := hrow.out.cell hvM
          have hfd := hrow.out.frozen v
          have HP2 := Lib.hid (show ∀ p, p < k + 1 → ∀ x, lst[p]? = some x → upd P v k x = p from fun p hp x hx => by
            by_cases e : x = v
            · subst e; rw [upd_same]; exact HINJ.out _ _ _ hv hx
            · rw [upd_other _ _ _ _ e]
              refine hP.out p ?_ x hx
              by_cases e2 : p = k
              · subst e2; rw [hv] at hx; exact absurd (Option.some.inj hx).symm e
              · omega)
          have HPB2 := Lib.hid (show ∀ x, upd P v k x ≤ 30 from fun x => by
            by_cases e : x = v
            · subst e; rw [upd_same]; omega
            · rw [upd_other _ _ _ _ e]; exact hPb.out x)
          clear hv hcv
          obtain ⟨wi, rfl⟩ : ∃ q, q = wr := ⟨_, rfl⟩
          go_wp2_with fail
          exact ⟨⟨k + 1, upd P v k, by omega, by go_num, Lib.hid (row_upd (f := nv) hrow.out), Lib.hid (hKp.out.set (by simp only; omega) _), Lib.hid (hF.out.setCell (by simp only; omega) _), HP2, HPB2⟩, by simp [intOf]; omega⟩
        · have HPA := Lib.hid (show ∀ p v, lst[p]? = some v → P v = p from fun p v hv => hP.out p (by have := (List.getElem?_eq_some_iff.1 hv).1; omega) v hv)
          obtain ⟨wx, rfl⟩ : ∃ q, q = wr := ⟨_, rfl⟩
          go_wp2_with fail
          go_loopw [9] (fun i wr => ∃ k : Nat, k ≤ n ∧ i = .int .i64 k ∧ Hid (Fut wx wr)) (fun i _ => n - (intOf i).toNat)
          case atStart => exact ⟨0, Nat.zero_le _, rfl, Lib.hid (Fut.refl _)⟩
          case round =>
            clear hbx
            obtain ⟨k2, hk2, rfl, hFx⟩ := hrel
            have hbx := hFx.out.cell (hKp.out _ _ hq1)
            by_cases hkn : k2 < n
            · obtain ⟨x, hx⟩ := get_lt HL.out hkn
              obtain ⟨b4, o4, rfl, hc⟩ := HR.out.1 k2 x hx
              have HC := Lib.hid hc
              have c1 := (hF.out.trans hFx.out).cell (hc 1 _ (by decide) rfl)
              have hxh := HHD.out x (List.mem_of_getElem? hx)
              have HXT := Lib.hid (HR.out.2 x (List.mem_of_getElem? hx)).1
              have hxl : x.t.length ≤ 9223372036854775807 := (HR.out.2 x (List.mem_of_getElem? hx)).2
              have HXV := Lib.hid (HTL.out x (List.mem_of_getElem? hx))
              have HTLX := Lib.hid (tl_of hx)
              have hha := headAt_of hx
              clear hx hc
              obtain ⟨xh, xt, xc, xl0, xl1, xA, xk⟩ := x
              simp only at HXT hxl HXV HTLX hxh hha c1
              obtain ⟨hd, rfl⟩ : ∃ m : Nat, xh = m := Int.eq_ofNat_of_zero_le hxh.1
              have hdM : hd < M := by have := hxh.2; omega
              have HHA := Lib.hid (show headAt es k2 = hd from hha)
              clear hxh hha
              obtain ⟨wy, rfl⟩ : ∃ q, q = wr := ⟨_, rfl⟩
              go_wp2_with fail
              go_loopw [10] (fun j wr => ∃ jj : Nat, jj ≤ xt.length ∧ j = .int .i64 jj ∧ Hid (Fut wx wr)) (fun j _ => xt.length - (intOf j).toNat)
              case atStart => exact ⟨0, Nat.zero_le _, rfl, hFx⟩
              case round =>
                clear hbx c1
                obtain ⟨jj, hjj, rfl, hFz⟩ := hrel
                have hbx := hFz.out.cell (hKp.out _ _ hq1)
                have c1 := (hF.out.trans hFz.out).cell (HC.out 1 _ (by decide) rfl)
                by_cases hjt : jj < xt.length
                · obtain ⟨y, hy⟩ := get_lt rfl hjt
                  have hyv := HXV.out y (List.mem_of_getElem? hy)
                  obtain ⟨t, rfl⟩ : ∃ t : Nat, y = t := Int.eq_ofNat_of_zero_le hyv.1
                  have htM : t < M := by have := hyv.2; omega
                  obtain ⟨b5, o5, rfl, hcy⟩ := HXT.out jj _ hy
                  have hmem : t ∈ tl es k2 := by rw [HTLX.out]; exact List.mem_of_getElem? (show (xt.map Int.toNat)[jj]? = some t from by rw [List.getElem?_map, hy]; rfl)
                  obtain ⟨pp, hpp⟩ := HALL.out hd hdM
                  obtain ⟨qq, hqq⟩ := HALL.out t htM
                  have hlt := HTOP.out k2 (by rw [HL.out]; exact hkn) (by rw [HHA.out]; exact hdM) t hmem pp qq (by rw [HHA.out]; exact hpp) hqq
                  have e1 := HPA.out _ _ hpp
                  have e2 := HPA.out _ _ hqq
                  have g1 : (P hd ≤ P t) = False := eq_false (by omega)
                  have g2 : ((P hd : Int) ≤ (P t : Int)) = False := eq_false (by omega)
                  have r0 := cell_fut hbx
                  have r1 := cell_fut c1
                  have c00 := (hF.out.trans hFz.out).cell (HC.out 0 _ (by decide) rfl)
                  simp only [Nat.add_zero] at c00
                  have r2 := cell_fut c00
                  have r3 := cell_fut ((hF.out.trans hFz.out).cell hcy)
                  have r4 : ∀ dd os, (fut wr dd os).cell? ⟨d, t, none⟩ = some (.int .i64 (P t)) := cell_fut (hFz.out.cell (hrow.out.cell htM))
                  have r5 : ∀ dd os, (fut wr dd os).cell? ⟨d, hd, none⟩ = some (.int .i64 (P hd)) := cell_fut (hFz.out.cell (hrow.out.cell hdM))
                  clear hy hyv hcy hmem hpp hqq hlt e1 e2 c00
                  obtain ⟨wz, rfl⟩ : ∃ q, q = wr := ⟨_, rfl⟩
                  go_wp2_with fail
                  refine wp_region_M o_emendatelaw27_HypergraphOrderIsTopological_20 (by kernel_rfl) (by kernel_rfl) (by intro c a d v w h; cases d <;> exact h) ?_; unfold o_emendatelaw27_HypergraphOrderIsTopological_20
                  repeat (refine wpF_h rfl rfl (fun K hK => ?_); go_simp; refine hK _ _ ?_; clear hK K)
                  refine wpF_nil ?_
                  go_wp2_with fail
                  exact ⟨⟨jj + 1, by omega, by go_num, Lib.hid hFz.out.drew⟩, by simp [intOf]; omega⟩
                · go_wp2_with fail
                  exact ⟨⟨k2 + 1, by omega, by go_num, hFz⟩, by simp [intOf]; omega⟩
            · go_wp2_with fail
              go_ret
              exact ⟨rfl, hF.out.trans hFx.out⟩
end Go.Proofs.Ytjoejkfchnooaaa
