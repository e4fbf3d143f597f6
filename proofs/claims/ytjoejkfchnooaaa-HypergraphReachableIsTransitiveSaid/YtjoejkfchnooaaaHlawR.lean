/-
  The law of reachable nodes, walked: it returns true and turns nothing that was there.
-/
import Derived.Test.YtjoejkfchnooaaaHsm
import Derived.Test.YtjoejkfchnooaaaHrreach
namespace Go.Proofs.Ytjoejkfchnooaaa
open Go.RowKit
attribute [local go_sem] Oper.lit Oper.litS fut_fut fut_drew World.cell?_alloc_some
attribute [local go_sem] fut_base_drew
theorem Rch.trans {es : List EI} {r v u : Nat} (h : Rch es r v) (k : Rch es v u) : Rch es r u := by
  induction k with
  | root => exact h
  | step hv he hh ht ih => exact .step ih he hh ht
theorem rchL_get {es : List EI} {r N u : Nat} (hu : u < N) : (rchL es r N)[u]? = some true ↔ Rch es r u := by
  unfold rchL
  rw [List.getElem?_map, List.getElem?_range hu]
  simp
theorem reachL_get {es : List EI} {N v : Nat} {root : Int} (hv : v < N) (h : (reachL es N root)[v]? = some true) : ∃ rt : Nat, root = rt ∧ reachL es N root = rchL es rt N ∧ Rch es rt v := by
  unfold reachL at h ⊢
  by_cases hr : 0 ≤ root ∧ root < N
  · rw [if_pos hr] at h ⊢
    obtain ⟨rt, rfl⟩ : ∃ m : Nat, root = m := Int.eq_ofNat_of_zero_le hr.1
    exact ⟨rt, rfl, rfl, (rchL_get hv).1 h⟩
  · rw [if_neg hr] at h
    rw [List.getElem?_replicate] at h
    simp [hv] at h
set_option maxHeartbeats 3200000 in
theorem law_hreach (N root : Int) (A : Option Addr) (n c : Nat) (es : List EI) (w : World) (hl : es.length = n) (hn : n ≤ maxLen) (hR : RdE w A es) :
    Calls Try.prog 5 #[hv N A n c, .int .i64 root] w fun e w' => e = .returned (.bool true) ∧ Below w.heap.size w w' := by
  have HN := Lib.hid hn
  have HR := Lib.hid hR
  have HL := Lib.hid hl
  clear hR hl hn
  have HW := Lib.hid ((Fut.refl w).alloc (.cells #[.int .i64 N, .slice A n c] 24))
  have q0 : ∀ dd os, (fut (w.alloc (.cells #[.int .i64 N, .slice A n c] 24)) dd os).cell? ⟨w.heap.size, 0, none⟩ = some (.int .i64 N) := cell_fut (by (first | (with_reducible assumption) | ((try simp (disch := first | (simp only [World.size_alloc, World.size_drew, World.size_setCell]; done) | (simp only [World.size_alloc, World.size_drew, World.size_setCell]; omega) | omega) only [cell_al_new, cell_al_old, cell_dr]); first | (with_reducible assumption) | rfl | (simp; done))))
  have q1 : ∀ dd os, (fut (w.alloc (.cells #[.int .i64 N, .slice A n c] 24)) dd os).cell? ⟨w.heap.size, 1, none⟩ = some (.slice A n c) := cell_fut (by (first | (with_reducible assumption) | ((try simp (disch := first | (simp only [World.size_alloc, World.size_drew, World.size_setCell]; done) | (simp only [World.size_alloc, World.size_drew, World.size_setCell]; omega) | omega) only [cell_al_new, cell_al_old, cell_dr]); first | (with_reducible assumption) | rfl | (simp; done))))
  cases hs : smallB N es with
  | false =>
    have HS := Lib.hid hs
    clear hs
    go_enter Try.func5, Try.ntmps5
    go_wp2_with (first | (go_at_call 11; refine (awake_any _).mono ?_; rintro e w1 ⟨rfl, hb1⟩; obtain ⟨dd, oo, rfl⟩ := fut_of hb1; clear hb1) | (go_at_call 14; refine (small_any N A n c es _ HL.out HN.out (HR.out.fut (HW.out.trans (Fut.fut _ _ _)))).mono ?_; rintro e w2 ⟨rfl, hb2⟩; rw [HS.out]; have f2 : Fut _ w2 := hb2; clear hb2))
    go_ret
    exact ⟨rfl, HW.out.trans ((Fut.fut _ _ _).trans f2)⟩
  | true =>
    obtain ⟨M, rfl, hM, hn60, hval, hsum, hM1, hhd, htl, h4⟩ := small_parts HL.out hs
    have HHD := Lib.hid hhd
    have HTL := Lib.hid htl
    have HS := Lib.hid hs
    have hMm : M ≤ maxLen := by unfold maxLen; omega
    clear hs hval hsum hhd htl h4
    go_enter Try.func5, Try.ntmps5
    go_wp2_with (first | (go_at_call 11; refine (awake_any _).mono ?_; rintro e w1 ⟨rfl, hb1⟩; obtain ⟨dd, oo, rfl⟩ := fut_of hb1; clear hb1) | (go_at_call 14; refine (small_any M A n c es _ HL.out HN.out (HR.out.fut (HW.out.trans (Fut.fut _ _ _)))).mono ?_; rintro e w2 ⟨rfl, hb2⟩; rw [HS.out]; obtain ⟨d2, o2, rfl⟩ := fut_of ((Fut.fut _ _ _).trans hb2); clear hb2) | (go_at_call 18; refine (reach_any M root A n c es _ HL.out (by omega) (by omega) HHD.out HTL.out (HR.out.fut (HW.out.trans (Fut.fut _ _ _)))).mono ?_; rintro e w3 ⟨b3, rfl, hd3, hb3⟩; obtain ⟨d3, o3, rfl⟩ := fut_of ((Fut.fut _ _ _).trans hb3); have HD3 := Lib.hid hd3; clear hb3 hd3) | (go_at_call 19; refine (rReach_any M root A n c es _ HL.out (by omega) (by omega) HHD.out HTL.out (HR.out.fut (HW.out.trans (Fut.fut _ _ _)))).mono ?_; rintro e w4 ⟨b4, rfl, hd4, hb4⟩; have HD4 := Lib.hid hd4; have HD3b := Lib.hid (HD3.out.fut hb4); have f4 : Fut _ w4 := hb4; clear hb4 hd4) | (go_at_call 15; refine (sameBools_any (some ⟨b3, 0, none⟩) (some ⟨b4, 0, none⟩) M M M M (reachL es M root) (reachL es M root) _ (reachL_len _ _ _) (reachL_len _ _ _) hMm hMm HD3b.out HD4.out).mono ?_; rintro e w5 ⟨rfl, hb5⟩; rw [show decide (reachL es M root = reachL es M root) = true from decide_eq_true rfl]; have HD5 := Lib.hid (HD3b.out.fut hb5); obtain ⟨d5, o5, rfl⟩ := fut_of ((Fut.fut _ _ _).trans (f4.trans hb5)); clear hb5 f4))
    have HLEN := Lib.hid (reachL_len es M root)
    have HK := Lib.hid HD5.out
    clear HD3 HD4 HD3b HD5
    generalize hW1 : w.alloc (.cells #[.int .i64 M, .slice A n c] 24) = W0 at *
    clear hW1
    go_loopw [6] (fun i wr => ∃ k : Nat, k ≤ M ∧ i = .int .i64 k ∧ Hid (Fut (fut W0 d5 o5) wr)) (fun i _ => M - (intOf i).toNat)
    case atStart => exact ⟨0, Nat.zero_le _, rfl, Lib.hid (Fut.refl _)⟩
    case round =>
      obtain ⟨k, hk, rfl, hF⟩ := hrel
      obtain ⟨dk, ok, rfl⟩ := fut_of ((Fut.fut W0 d5 o5).trans hF.out)
      by_cases hkM : k < M
      · obtain ⟨bv, hbv⟩ := get_lt HLEN.out hkM
        obtain ⟨bb, bo, e1, hc⟩ := HK.out k bv hbv
        injection e1 with e1
        injection e1 with e1 e2
        subst e1 e2
        have hcv := hF.out.cell hc
        rw [Nat.zero_add] at hcv
        have HBV := Lib.hid hbv
        clear hbv hc
        cases bv with
        | false =>
          go_wp2_with fail
          exact ⟨⟨k + 1, by omega, by go_num, hF⟩, by simp [intOf]; omega⟩
        | true =>
          obtain ⟨rt, hrt, hrl, hrv⟩ := reachL_get hkM HBV.out
          have HRV := Lib.hid hrv
          have HRL := Lib.hid hrl
          clear hrt hrl hrv
          go_wp2_with (go_at_call 18; refine (reach_any M k A n c es _ HL.out (by omega) (by omega) HHD.out HTL.out (HR.out.fut (HW.out.trans (Fut.fut _ _ _)))).mono ?_; rintro e w6 ⟨b6, rfl, hd6, hb6⟩; have HF6 := Lib.hid (hF.out.trans hb6); obtain ⟨d6, o6, rfl⟩ := fut_of ((Fut.fut _ _ _).trans hb6); have HD6 := Lib.hid hd6; clear hb6 hd6)
          have HRK := Lib.hid (show reachL es M (k : Int) = rchL es k M from by unfold reachL; rw [if_pos (by omega)]; rfl)
          go_loopw [8] (fun i wr => ∃ u : Nat, u ≤ M ∧ i = .int .i64 u ∧ wr = fut W0 d6 o6) (fun i _ => M - (intOf i).toNat)
          case atStart => exact ⟨0, Nat.zero_le _, rfl, rfl⟩
          case round =>
            obtain ⟨u, hu, rfl, rfl⟩ := hrel
            by_cases huM : u < M
            · obtain ⟨bm, hbm⟩ := get_lt (reachL_len es M (k : Int)) huM
              obtain ⟨bi, hbi⟩ := get_lt HLEN.out huM
              obtain ⟨x1, x2, e1, hc1⟩ := HD6.out u bm hbm
              injection e1 with e1
              injection e1 with e1 e2
              subst e1 e2
              obtain ⟨x1, x2, e1, hc2⟩ := HK.out u bi hbi
              injection e1 with e1
              injection e1 with e1 e2
              subst e1 e2
              have hc3 := HF6.out.cell hc2
              rw [Nat.zero_add] at hc1 hc3
              have himp : bm = true → bi = true := fun e => by
                subst e
                rw [HRK.out, rchL_get huM] at hbm
                have h2 := (rchL_get (N := M) huM).2 (HRV.out.trans hbm)
                rw [← HRL.out, hbi] at h2
                exact Option.some.inj h2
              have HIMP := Lib.hid himp
              clear hbm hbi hc2 himp
              cases bm with
              | false =>
                go_wp2_with fail
                exact ⟨⟨u + 1, by omega, by go_num, by first | rfl | trivial⟩, by simp [intOf]; omega⟩
              | true =>
                have hbt := HIMP.out rfl
                subst hbt
                go_wp2_with fail
                exact ⟨⟨u + 1, by omega, by go_num, by first | rfl | trivial⟩, by simp [intOf]; omega⟩
            · go_wp2_with fail
              exact ⟨⟨k + 1, by omega, by go_num, HF6⟩, by simp [intOf]; omega⟩
      · go_wp2_with fail
        go_ret
        exact ⟨rfl, HW.out.trans (Fut.fut _ _ _)⟩
end Go.Proofs.Ytjoejkfchnooaaa
