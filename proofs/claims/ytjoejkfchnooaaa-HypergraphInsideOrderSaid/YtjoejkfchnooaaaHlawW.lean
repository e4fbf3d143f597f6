/-
  The law of the order of products and sums, walked: it returns true and turns nothing that was there.
-/
import Derived.Test.YtjoejkfchnooaaaHwords
import Derived.Test.YtjoejkfchnooaaaOwnS
import Derived.Test.YtjoejkfchnooaaaHrword
namespace Go.Proofs.Ytjoejkfchnooaaa
open Go.RowKit
attribute [local go_sem] Oper.lit Oper.litS fut_fut fut_drew World.cell?_alloc_some
attribute [local go_sem] fut_base_drew
set_option maxHeartbeats 6400000 in
set_option maxRecDepth 4000 in
theorem law_hwords (N : Int) (A : Option Addr) (n c : Nat) (es : List EI) (w : World) (hl : es.length = n) (hn : n ≤ maxLen) (hR : RdE w A es) :
    Calls Try.prog 8 #[hv N A n c] w fun e w' => e = .returned (.bool true) ∧ Below w.heap.size w w' := by
  have HN := Lib.hid hn
  have HR := Lib.hid hR
  have HL := Lib.hid hl
  clear hR hl hn
  have HW := Lib.hid ((Fut.refl w).alloc (.cells #[.int .i64 N, .slice A n c] 24))
  have q0 : ∀ dd os, (fut (w.alloc (.cells #[.int .i64 N, .slice A n c] 24)) dd os).cell? ⟨w.heap.size, 0, none⟩ = some (.int .i64 N) := cell_fut (by (first | (with_reducible assumption) | ((try simp (disch := first | (simp only [World.size_alloc, World.size_drew, World.size_setCell]; done) | (simp only [World.size_alloc, World.size_drew, World.size_setCell]; omega) | omega) only [cell_al_new, cell_al_old, cell_dr]); first | (with_reducible assumption) | rfl | (simp; done))))
  have q1 : ∀ dd os, (fut (w.alloc (.cells #[.int .i64 N, .slice A n c] 24)) dd os).cell? ⟨w.heap.size, 1, none⟩ = some (.slice A n c) := cell_fut (by (first | (with_reducible assumption) | ((try simp (disch := first | (simp only [World.size_alloc, World.size_drew, World.size_setCell]; done) | (simp only [World.size_alloc, World.size_drew, World.size_setCell]; omega) | omega) only [cell_al_new, cell_al_old, cell_dr]); first | (with_reducible assumption) | rfl | (simp; done))))
  cases hs : smallB N es with
  | false =>
    have HS := Lib.hid hs
    clear hs
    go_enter Try.func8, Try.ntmps8
    go_wp2_with (first | (go_at_call 11; refine (awake_any _).mono ?_; rintro e w1 ⟨rfl, hb1⟩; obtain ⟨dd, oo, rfl⟩ := fut_of hb1; clear hb1) | (go_at_call 14; refine (small_any N A n c es _ HL.out HN.out (HR.out.fut (HW.out.trans (Fut.fut _ _ _)))).mono ?_; rintro e w2 ⟨rfl, hb2⟩; rw [HS.out]; have f2 : Fut _ w2 := hb2; clear hb2))
    go_ret
    exact ⟨rfl, HW.out.trans ((Fut.fut _ _ _).trans f2)⟩
  | true =>
    obtain ⟨M, rfl, hM, hn60, hval, hsum, hM1, hhd, htl, h4⟩ := small_parts HL.out hs
    have HS := Lib.hid hs
    have HSUM := Lib.hid hsum
    have HVAL := Lib.hid hval
    clear hs hval hsum hhd htl h4
    go_enter Try.func8, Try.ntmps8
    go_wp2_with (first | (go_at_call 11; refine (awake_any _).mono ?_; rintro e w1 ⟨rfl, hb1⟩; obtain ⟨dd, oo, rfl⟩ := fut_of hb1; clear hb1) | (go_at_call 14; refine (small_any M A n c es _ HL.out HN.out (HR.out.fut (HW.out.trans (Fut.fut _ _ _)))).mono ?_; rintro e w2 ⟨rfl, hb2⟩; rw [HS.out]; obtain ⟨d2, o2, rfl⟩ := fut_of ((Fut.fut _ _ _).trans hb2); clear hb2))
    have x0 := q0 d2 o2
    have x1 := q1 d2 o2
    have HFW := Lib.hid (show Fut w (fut (w.alloc (.cells #[.int .i64 M, .slice A n c] 24)) d2 o2) from HW.out.trans (Fut.fut _ _ _))
    clear q0 q1
    generalize fut (w.alloc (.cells #[.int .i64 M, .slice A n c] 24)) d2 o2 = w6 at *
    go_loopw [3, 4] (fun lv i wr => ∃ (k : Nat) (ws : List ByteArray), k ≤ n ∧ i = .int .i64 k ∧ ws.length = k ∧ Hid (∀ x ∈ ws, x.size ≤ 200) ∧ Hid (OwnS wr w6.heap.size lv ws) ∧ Hid (Fut w6 wr)) (fun _ i _ => n - (intOf i).toNat)
    case atStart => exact ⟨0, [], Nat.zero_le _, rfl, rfl, Lib.hid (by simp), Lib.hid (OwnS.nil _ _), Lib.hid (Fut.refl _)⟩
    case round =>
      obtain ⟨k, ws, hk, rfl, hwl, hws, hown, hF⟩ := hrel
      obtain ⟨la, lc, hlv, hla⟩ := hown.out.form
      subst hlv
      have hb1 := hF.out.cell x1
      have hb0 := hF.out.cell x0
      obtain ⟨wx, rfl⟩ : ∃ q, q = wr := ⟨_, rfl⟩
      by_cases hkn : k < n
      · obtain ⟨r, hr⟩ : ∃ r, k % 26 = r := ⟨_, rfl⟩
        have hr3 : r < 26 := by rw [← hr]; exact Nat.mod_lt _ (by decide)
        have hrem : Int.tmod (k : Int) 26 = (r : Int) := by rw [← hr]; rfl
        have hsz := hF.out.size
        have hws0 := hws.out
        have HWL := Lib.hid hwl
        clear hwl
        go_wp2_with (at_builtin; refine wpList_pushS rfl (.tmp 22) (.tmp 29) rfl w6.heap.size _ ws rfl (hown.out.alloc _) wx.heap.size _ rfl (heap_alloc_new _ _) (by rw [HWL.out]; omega) (by rw [World.size_alloc]; omega) ?_; intro g2 cp2 w2 hown2 hgr2 _; have HOWN2 := Lib.hid hown2; have HGR2 := Lib.hid hgr2; clear hown2 hgr2)
        have hlk : ws.length = k := HWL.out
        refine ⟨⟨k + 1, _, by omega, by go_num, by rw [List.length_append, hlk]; rfl, Lib.hid (fun x hx => ?_), HOWN2, Lib.hid (Below.grown (hF.out.alloc _) HGR2.out (by rw [World.size_alloc]; omega) (fun q hq => (hown.out.lt q hq).1))⟩, by simp [intOf]; omega⟩
        rcases List.mem_append.1 hx with hx | hx
        · exact hws0 x hx
        · simp only [List.mem_singleton] at hx
          subst hx
          rw [ByteArray.size_extract]; omega
      · have hkn' : k = n := by omega
        have HR1 := Lib.hid hown.out.rd.2
        have HWL := Lib.hid (hwl.trans hkn')
        have HFN := Lib.hid (HFW.out.trans hF.out)
        have hwn : ws.length = n := hwl.trans hkn'
        clear hkn' hwl
        rw [hwn]
        clear hwn
        cases hor : ordS es M with
        | none =>
          have HOR := Lib.hid hor
          clear hor
          go_wp2_with (first | (go_at_call 25; refine (inside_word M A la n c lc es ws wx HL.out HWL.out (by omega) HVAL.out HSUM.out (HR.out.fut HFN.out) HR1.out hws.out).mono ?_; rintro e w7 ⟨he, hb7⟩; rw [HOR.out] at he; obtain rfl := he; have hy0 := Fut.cell hb7 hb0; have hy1 := Fut.cell hb7 hb1; have HF7 := Lib.hid (HFN.out.trans hb7); have HR7 := Lib.hid (HR1.out.fut hb7); clear hb7) | (go_at_call 26; refine (rWord_any M A la n c lc es ws w7 HL.out HWL.out (by omega) HVAL.out (HR.out.fut HF7.out) HR7.out hws.out).mono ?_; rintro e w8 ⟨he, hb8⟩; rw [HOR.out] at he; obtain rfl := he; have HF8 := Lib.hid (HF7.out.trans hb8); clear hb8))
          go_loopw [9] (fun i wr => i = .int .i64 0 ∧ wr = w8) (fun _ _ => 0)
          case atStart => exact ⟨rfl, rfl⟩
          case round =>
            obtain ⟨rfl, rfl⟩ := hrel
            go_wp2_with fail
            go_ret
            exact ⟨rfl, HF8.out⟩
        | some lst =>
          have HOR := Lib.hid hor
          clear hor
          go_wp2_with (first | (go_at_call 25; refine (inside_word M A la n c lc es ws wx HL.out HWL.out (by omega) HVAL.out HSUM.out (HR.out.fut HFN.out) HR1.out hws.out).mono ?_; rintro e w7 ⟨he, hb7⟩; rw [HOR.out] at he; obtain ⟨bx, rfl, hrx⟩ := he; have hy0 := Fut.cell hb7 hb0; have hy1 := Fut.cell hb7 hb1; have HF7 := Lib.hid (HFN.out.trans hb7); have HR7 := Lib.hid (HR1.out.fut hb7); have HRX := Lib.hid hrx; clear hb7 hrx) | (go_at_call 26; refine (rWord_any M A la n c lc es ws w7 HL.out HWL.out (by omega) HVAL.out (HR.out.fut HF7.out) HR7.out hws.out).mono ?_; rintro e w8 ⟨he, hb8⟩; rw [HOR.out] at he; obtain ⟨by2, rfl, hry⟩ := he; have HF8 := Lib.hid (HF7.out.trans hb8); have HRX8 := Lib.hid (HRX.out.fut hb8); have HRY := Lib.hid hry; clear hb8 hry))
          generalize insO ByteArray.empty ByteArray.empty mulW addW es ws n lst = X at *
          have hgx : ∀ (b v : Nat) (W : World), v < M → Rd1 W (some ⟨b, 0, none⟩) Value.string ((List.range M).map X) → W.cell? ⟨b, v, none⟩ = some (.string (X v)) := fun b v W hv h => by
            obtain ⟨b', o', e1, hc⟩ := h v (X v) (by rw [List.getElem?_map, List.getElem?_range hv]; rfl)
            injection e1 with e1
            injection e1 with e1 e2
            subst e1 e2
            rw [Nat.zero_add] at hc; exact hc
          have HGX := Lib.hid (fun v hv => hgx bx v w8 hv HRX8.out)
          have HGY := Lib.hid (fun v hv => hgx by2 v w8 hv HRY.out)
          clear hgx
          go_loopw [9] (fun i wr => ∃ k : Nat, k ≤ M ∧ i = .int .i64 k ∧ Hid (Fut w8 wr)) (fun i _ => M - (intOf i).toNat)
          case atStart => exact ⟨0, Nat.zero_le _, rfl, Lib.hid (Fut.refl _)⟩
          case round =>
            obtain ⟨v, hv, rfl, hF9⟩ := hrel
            by_cases hvM : v < M
            · have r0 : ∀ dd os, (fut wr dd os).cell? ⟨bx, v, none⟩ = some (.string (X v)) := cell_fut (hF9.out.cell (HGX.out v hvM))
              have r1 : ∀ dd os, (fut wr dd os).cell? ⟨by2, v, none⟩ = some (.string (X v)) := cell_fut (hF9.out.cell (HGY.out v hvM))
              obtain ⟨wi, rfl⟩ : ∃ q, q = wr := ⟨_, rfl⟩
              go_wp2_with fail
              refine wp_region_M o_emendatelaw27_HypergraphInsideOrder_17 (by kernel_rfl) (by kernel_rfl) (by intro c a d v w h; cases d <;> exact h) ?_; unfold o_emendatelaw27_HypergraphInsideOrder_17
              repeat (refine wpF_h rfl rfl (fun K hK => ?_); go_simp; refine hK _ _ ?_; clear hK K)
              refine wpF_nil ?_
              go_wp2_with fail
              exact ⟨⟨v + 1, by omega, by go_num, Lib.hid hF9.out.drew⟩, by simp [intOf]; omega⟩
            · go_wp2_with fail
              go_ret
              exact ⟨rfl, HF8.out.trans hF9.out⟩
end Go.Proofs.Ytjoejkfchnooaaa
