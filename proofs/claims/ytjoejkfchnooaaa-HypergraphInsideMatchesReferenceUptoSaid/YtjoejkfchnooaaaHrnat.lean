/-
  The reference's inside values, walked, for numbers.
-/
import Derived.Test.YtjoejkfchnooaaaHawake
import Derived.Test.YtjoejkfchnooaaaHrord
import Derived.Test.YtjoejkfchnooaaaHval2
import Derived.Test.YtjoejkfchnooaaaHsm
namespace Go.Proofs.Ytjoejkfchnooaaa
open Go.RowKit
attribute [local go_sem] Oper.lit Oper.litS fut_fut fut_drew World.cell?_alloc_some
attribute [local go_sem] fut_base_drew
theorem inv_mul {a b : Int} (_ : 0 ≤ a ∧ a < 65536) (_ : 0 ≤ b ∧ b < 65536) : 0 ≤ mulN a b ∧ mulN a b < 65536 := ⟨Int.emod_nonneg _ (by decide), Int.emod_lt_of_pos _ (by decide)⟩
theorem inv_add {a b : Int} (_ : 0 ≤ a ∧ a < 65536) (_ : 0 ≤ b ∧ b < 65536) : 0 ≤ addN a b ∧ addN a b < 65536 := ⟨Int.emod_nonneg _ (by decide), Int.emod_lt_of_pos _ (by decide)⟩
theorem eof_next (es : List EI) (k v : Nat) : eof es (k + 1) v = eof es k v ++ (if headAt es k = v then [k] else []) := by
  unfold eof
  rw [List.range_succ, List.filter_append]
  congr 1
  by_cases h : headAt es k = v
  · simp [h]
  · simp [h]
set_option maxHeartbeats 12800000 in
set_option maxRecDepth 4000 in
theorem rNat_any (N : Nat) (A B : Option Addr) (n c d : Nat) (es : List EI) (ws : List Int) (w : World) (hl : es.length = n) (hwl : ws.length = n) (hn : n ≤ 1000) (hval : validB N es = true) (hR : RdE w A es) (hRw : Rd1 w B ((Value.int .i64) ·) ws) (hwI : ∀ x ∈ ws, (fun x : Int => 0 ≤ x ∧ x < 65536) x) :
    Calls Try.prog 24 #[hv N A n c, .slice B n d] w fun e w' => InsRes (Value.int .i64) w' e N (insO 0 0 mulN addN es ws n) (ordS es N) ∧ Below w.heap.size w w' := by
  obtain ⟨hN1, hN, hhd, htl⟩ := valid_parts hval
  have HVAL := Lib.hid hval
  have HR := Lib.hid hR
  have HRW := Lib.hid hRw
  have HL := Lib.hid hl
  have HWL := Lib.hid hwl
  have HV := Lib.hid hhd
  have HT := Lib.hid htl
  have HWI := Lib.hid hwI
  clear hval hR hRw hl hwl hhd htl hwI
  obtain ⟨i1, ki, kz0, kz1, kz2⟩ := info_parts info_int
  have hnm : n ≤ maxLen := by unfold maxLen; omega
  have HB0 := Lib.hid (show Fut w (w.alloc (.cells #[.int .i64 N, .slice A n c] 24)) from (Fut.refl w).alloc _)
  have b0 : ∀ dd os, (fut (w.alloc (.cells #[.int .i64 N, .slice A n c] 24)) dd os).cell? ⟨w.heap.size, 0, none⟩ = some (.int .i64 N) := cell_fut (by (first | (with_reducible assumption) | ((try simp (disch := first | (simp only [World.size_alloc, World.size_drew, World.size_setCell]; done) | (simp only [World.size_alloc, World.size_drew, World.size_setCell]; omega) | omega) only [cell_al_new, cell_al_old, cell_dr]); first | (with_reducible assumption) | rfl | (simp; done))))
  have b1 : ∀ dd os, (fut (w.alloc (.cells #[.int .i64 N, .slice A n c] 24)) dd os).cell? ⟨w.heap.size, 1, none⟩ = some (.slice A n c) := cell_fut (by (first | (with_reducible assumption) | ((try simp (disch := first | (simp only [World.size_alloc, World.size_drew, World.size_setCell]; done) | (simp only [World.size_alloc, World.size_drew, World.size_setCell]; omega) | omega) only [cell_al_new, cell_al_old, cell_dr]); first | (with_reducible assumption) | rfl | (simp; done))))
  go_enter Try.func24, Try.ntmps24
  cases hor : ordS es N with
  | none =>
    have HOR := Lib.hid hor
    clear hor
    go_wp2_with (first
      | (go_at_call 13; refine (rValid_any N A n c es _ HL.out hnm (HR.out.fut HB0.out)).mono ?_; rintro e w1 ⟨rfl, hb1⟩; rw [HVAL.out]; obtain ⟨dd, oo, rfl⟩ := fut_of hb1; clear hb1)
      | (go_at_call 21; refine (rOrder_any N A n c es _ HL.out hn hN HV.out HT.out (HR.out.fut (HB0.out.trans (Fut.fut _ _ _)))).mono ?_; rintro e w2 ⟨he, hb2⟩; rw [HOR.out] at he; obtain rfl := he; have HB2 := Lib.hid hb2; clear hb2))
    go_ret2
    exact ⟨rfl, (HB0.out.trans (Fut.fut _ _ _)).trans HB2.out⟩
  | some l =>
    have HOR := Lib.hid hor
    clear hor
    go_wp2_with (first
      | (go_at_call 13; refine (rValid_any N A n c es _ HL.out hnm (HR.out.fut HB0.out)).mono ?_; rintro e w1 ⟨rfl, hb1⟩; rw [HVAL.out]; obtain ⟨dd, oo, rfl⟩ := fut_of hb1; clear hb1)
      | (go_at_call 21; refine (rOrder_any N A n c es _ HL.out hn hN HV.out HT.out (HR.out.fut (HB0.out.trans (Fut.fut _ _ _)))).mono ?_; rintro e w2 ⟨he, hb2⟩; rw [HOR.out] at he; obtain ⟨oA, oc, rfl, hol⟩ := he; obtain ⟨dd2, oo2, rfl⟩ := fut_of ((Fut.fut _ _ _).trans hb2); have HOL := Lib.hid hol; clear hb2 hol)
      | (refine wpList_make_row _ rfl (.tmp 34) (.tmp 34) 32 rfl 3 i1 ((Value.int .i64) 0) Try.underlying32 ki kz0 kz1 rfl .i64 .i64 N rfl rfl (by rw [kz2]; omega) (by omega) ?_))
    have hls := ordS_lt HOR.out
    have HLT := Lib.hid hls.1
    have hlN : l.length = N := hls.2
    clear hls
    rw [hlN]
    generalize hW2 : fut (w.alloc (.cells #[.int .i64 N, .slice A n c] 24)) dd2 oo2 = w2 at *
    have hFw2 : Fut w w2 := by rw [← hW2]; exact HB0.out.trans (Fut.fut _ _ _)
    have hbx2 : w2.cell? ⟨w.heap.size, 1, none⟩ = some (.slice A n c) := by rw [← hW2]; exact b1 _ _
    have HOL2 : Hid (Rd1 w2 oA nv l) := Lib.hid HOL.out
    have hsz0 : w.heap.size ≤ w2.heap.size := hFw2.size
    have HROW := Lib.hid (World.rowIs_made w2 ((Value.int .i64) 0) N 3)
    have HK0 := Lib.hid ((Kp.refl w2).fut ((Fut.refl w2).alloc (.cells (madeCells #[(Value.int .i64) 0] N) 3)))
    have HFW := Lib.hid hFw2
    clear b0 b1 hW2 HOL hFw2
    obtain ⟨d, hdd⟩ : ∃ d, w2.heap.size = d := ⟨_, rfl⟩
    rw [hdd] at HROW ⊢
    go_loopw [9] (fun i wr => ∃ (j : Nat) (O : Nat → Int), j ≤ N ∧ i = .int .i64 j ∧ Hid (O = (l.take j).foldl (insStep 0 0 mulN addN es ws n) (fun _ => 0)) ∧ Hid (∀ v, (fun x : Int => 0 ≤ x ∧ x < 65536) (O v)) ∧ Hid (Kp w2 wr) ∧ Hid (Fut w wr) ∧ Hid (wr.rowIs d 3 N (fun i => (Value.int .i64) (O i)))) (fun i _ => N - (intOf i).toNat)
    case atStart => exact ⟨0, _, Nat.zero_le _, rfl, Lib.hid rfl, Lib.hid (fun _ => (by decide : 0 ≤ (0:Int) ∧ (0:Int) < 65536)), HK0, Lib.hid (HFW.out.alloc _), HROW⟩
    case round =>
      clear HK0 HROW
      obtain ⟨j, O, hj, rfl, hO, hIO, hKp, hFw, hrow⟩ := hrel
      by_cases hjl : j < N
      · obtain ⟨v, hv⟩ := get_lt hlN hjl
        obtain ⟨b3, o3, rfl, hcv⟩ := HOL2.out j v hv
        have HCV := Lib.hid (hKp.out _ _ hcv)
        have HBX := Lib.hid (hKp.out _ _ hbx2)
        have hvN := HLT.out v (List.mem_of_getElem? hv)
        have HVJ := Lib.hid hv
        clear hcv hv
        obtain ⟨wo, rfl⟩ : ∃ x, x = wr := ⟨_, rfl⟩
        go_wp2_with fail
        go_loopw [10, 11] (fun s i wr => ∃ (k : Nat) (x : Int), k ≤ n ∧ i = .int .i64 k ∧ s = (Value.int .i64) x ∧ Hid (x = (eof es k v).foldl (fun s i => addN s (edgeV mulN es O (ws.getD i 0) i)) 0) ∧ Hid ((fun x : Int => 0 ≤ x ∧ x < 65536) x) ∧ Hid (Fut wo wr)) (fun _ i _ => n - (intOf i).toNat)
        case atStart => exact ⟨0, 0, Nat.zero_le _, rfl, rfl, Lib.hid rfl, Lib.hid (by decide : 0 ≤ (0:Int) ∧ (0:Int) < 65536), Lib.hid (Fut.refl _)⟩
        case round =>
          obtain ⟨k, x, hk, rfl, rfl, hx, hIx, hFo⟩ := hrel
          have q0 := hFo.out.cell HBX.out
          by_cases hkn : k < n
          · obtain ⟨y, hy⟩ := get_lt HWL.out hkn
            obtain ⟨b5, o5, rfl, hcw⟩ := HRW.out k y hy
            obtain ⟨z, hz⟩ := get_lt HL.out hkn
            obtain ⟨b6, o6, rfl, hce⟩ := HR.out.1 k z hz
            have r0 : ∀ dd os, (fut wr dd os).cell? ⟨w.heap.size, 1, none⟩ = some (.slice (some ⟨b6, o6, none⟩) n c) := cell_fut (hFo.out.cell HBX.out)
            have r1 : ∀ dd os, (fut wr dd os).cell? ⟨b3, o3 + j, none⟩ = some (nv v) := cell_fut (hFo.out.cell HCV.out)
            have r2 : ∀ dd os, (fut wr dd os).cell? ⟨b6, o6 + k * 5, none⟩ = some (.int .i64 z.h) := cell_fut ((hFw.out.trans hFo.out).cell (by have := hce 0 _ (by decide) rfl; simpa using this))
            have HC1 := Lib.hid ((hFw.out.trans hFo.out).cell (hce 1 _ (by decide) rfl))
            have HCW := Lib.hid ((hFw.out.trans hFo.out).cell hcw)
            have HZT := Lib.hid (HR.out.2 z (List.mem_of_getElem? hz)).1
            have hzl : z.t.length ≤ 9223372036854775807 := (HR.out.2 z (List.mem_of_getElem? hz)).2
            have HZV := Lib.hid (HT.out z (List.mem_of_getElem? hz))
            have hzh := HV.out z (List.mem_of_getElem? hz)
            have HTLZ := Lib.hid (tl_of hz)
            have HYI := Lib.hid (HWI.out y (List.mem_of_getElem? hy))
            have HYD := Lib.hid (show ws.getD k 0 = y from by rw [List.getD_eq_getElem?_getD, hy]; rfl)
            have hha := headAt_of hz
            clear hy hcw hz hce
            obtain ⟨zh, zt, zc, zl0, zl1, zA, zk⟩ := z
            simp only at HZT hzl HZV HTLZ hzh hha r2 HC1
            obtain ⟨hd, rfl⟩ : ∃ m : Nat, zh = m := Int.eq_ofNat_of_zero_le hzh.1
            have HHA := Lib.hid (show headAt es k = hd from hha)
            clear hzh hha
            obtain ⟨wi, rfl⟩ : ∃ q, q = wr := ⟨_, rfl⟩
            by_cases hdv : hd = v
            · have hb : ((hd : Int) == (v : Int)) = true := by rw [beq_iff_eq]; omega
              have hbn : ((hd : Int) != (v : Int)) = false := by rw [bne, hb]; rfl
              have HEO := Lib.hid (show eof es (k + 1) v = eof es k v ++ [k] from by rw [eof_next, if_pos (by rw [HHA.out]; exact hdv)])
              clear hdv
              go_wp2_with fail
              refine wp_region_M o_emendateref27_Naturals_14 (by kernel_rfl) (by kernel_rfl) (by intro c a d v w h; cases d <;> exact h) ?_; unfold o_emendateref27_Naturals_14
              repeat (refine wpF_h rfl rfl (fun K hK => ?_); go_simp; refine hK _ _ ?_; clear hK K)
              refine wpF_nil ?_
              have s4 : wi.drew.cell? ⟨b5, o5 + k, none⟩ = some ((Value.int .i64) y) := HCW.out
              clear r0 r1 r2 q0
              go_wp2_with fail
              clear s4
              go_loopw [12, 13] (fun s i wr => ∃ (q : Nat) (a : Int), q ≤ zt.length ∧ i = .int .i64 q ∧ s = (Value.int .i64) a ∧ Hid (a = ((zt.map Int.toNat).take q).foldl (fun a t => mulN a (O t)) y) ∧ Hid ((fun x : Int => 0 ≤ x ∧ x < 65536) a) ∧ Hid (Fut wi.drew wr)) (fun _ i _ => zt.length - (intOf i).toNat)
              case atStart => exact ⟨0, y, Nat.zero_le _, rfl, rfl, Lib.hid rfl, HYI, Lib.hid (Fut.refl _)⟩
              case round =>
                obtain ⟨q, a, hq, rfl, rfl, ha, hIa, hFi⟩ := hrel
                have q0 := hFi.out.cell (show wi.drew.cell? ⟨w.heap.size, 1, none⟩ = _ from hFo.out.cell HBX.out)
                have q1 := hFi.out.cell (show wi.drew.cell? ⟨b6, o6 + k * 5 + 1, none⟩ = _ from HC1.out)
                by_cases hqt : q < zt.length
                · obtain ⟨y2, hy2⟩ := get_lt rfl hqt
                  have hyv := HZV.out y2 (List.mem_of_getElem? hy2)
                  obtain ⟨t, rfl⟩ : ∃ t : Nat, y2 = t := Int.eq_ofNat_of_zero_le hyv.1
                  have htN : t < N := by have := hyv.2; omega
                  obtain ⟨b7, o7, rfl, hct⟩ := HZT.out q _ hy2
                  have q2 := ((hFw.out.trans hFo.out).drew.trans hFi.out).cell hct
                  have q3 : wr.cell? ⟨d, t, none⟩ = some ((Value.int .i64) (O t)) := (hFo.out.drew.trans hFi.out).cell (hrow.out.cell htN)
                  have HA2 := Lib.hid (show mulN a (O t) = ((zt.map Int.toNat).take (q + 1)).foldl (fun a t => mulN a (O t)) y from by
                    rw [List.take_add_one, List.getElem?_map, hy2, List.foldl_append, ← ha.out]; rfl)
                  clear hy2 hyv hct
                  have hia := hIa.out
                  have hio := hIO.out t
                  have hm0 : 0 ≤ a * O t ∧ a * O t ≤ 4294967296 := by
                    refine ⟨Int.mul_nonneg hia.1 hio.1, ?_⟩
                    have := Int.mul_le_mul (show a ≤ 65536 by omega) (show O t ≤ 65536 by omega) hio.1 (by omega)
                    omega
                  have hw1 : IntKind.i64.wrap (a * O t) = a * O t := IntWalk.i64_in _ ⟨by omega, by omega⟩
                  have hw2 : wrap64 (a * O t) = a * O t := IntWalk.wrap64_in _ ⟨by omega, by omega⟩
                  have hw3 : Int.tmod (a * O t) 65536 = a * O t % 65536 := Int.tmod_eq_emod_of_nonneg hm0.1
                  clear hia hio hm0
                  obtain ⟨wk, hwk⟩ : ∃ q, q = wr := ⟨_, rfl⟩
                  clear hwk
                  go_wp2_with fail
                  exact ⟨⟨q + 1, mulN a (O t), by omega, by go_num, rfl, HA2, Lib.hid (inv_mul hIa.out (hIO.out t)), hFi⟩, by simp [intOf]; omega⟩
                · have HAE := Lib.hid (show a = edgeV mulN es O y k from by
                    rw [ha.out, List.take_of_length_le (by rw [List.length_map]; omega)]
                    unfold edgeV; rw [HTLZ.out])
                  have hix := hIx.out
                  have hia := hIa.out
                  have hw1 : IntKind.i64.wrap (x + a) = x + a := IntWalk.i64_in _ ⟨by omega, by omega⟩
                  have hw2 : wrap64 (x + a) = x + a := IntWalk.wrap64_in _ ⟨by omega, by omega⟩
                  have hw3 : Int.tmod (x + a) 65536 = (x + a) % 65536 := Int.tmod_eq_emod_of_nonneg (by omega)
                  clear hix hia
                  go_wp2_with fail
                  refine ⟨⟨k + 1, addN x a, by omega, by go_num, rfl, Lib.hid ?_, Lib.hid (inv_add hIx.out hIa.out), Lib.hid (hFo.out.drew.trans hFi.out)⟩, by simp [intOf]; omega⟩
                  rw [HEO.out, List.foldl_append, ← hx.out]
                  simp only [List.foldl_cons, List.foldl_nil]
                  rw [HYD.out, ← HAE.out]
            · have hb : ((hd : Int) == (v : Int)) = false := by rw [beq_eq_false_iff_ne]; omega
              have hbn : ((hd : Int) != (v : Int)) = true := by rw [bne, hb]; rfl
              have HEO := Lib.hid (show eof es (k + 1) v = eof es k v from by rw [eof_next, if_neg (by rw [HHA.out]; exact hdv), List.append_nil])
              clear hdv
              go_wp2_with fail
              refine wp_region_M o_emendateref27_Naturals_14 (by kernel_rfl) (by kernel_rfl) (by intro c a d v w h; cases d <;> exact h) ?_; unfold o_emendateref27_Naturals_14
              repeat (refine wpF_h rfl rfl (fun K hK => ?_); go_simp; refine hK _ _ ?_; clear hK K)
              refine wpF_nil ?_
              go_wp2_with fail
              refine ⟨⟨k + 1, x, by omega, by go_num, rfl, Lib.hid ?_, hIx, Lib.hid hFo.out.drew⟩, by simp [intOf]; omega⟩
              rw [HEO.out]; exact hx.out
          · have HXE := Lib.hid (show x = nodeV 0 0 mulN addN es ws n O v from by
              rw [hx.out, show k = n by omega]; rfl)
            have hr2 : wr.rowIs d 3 N (fun i => (Value.int .i64) (O i)) := hrow.out.of_block (hFo.out.block d hrow.out.lt)
            have q1 := hFo.out.cell HCV.out
            have hcd := hr2.cell hvN
            have hfd := hr2.frozen v
            have HR2 := Lib.hid (row_upd (i := v) (x := x) hr2)
            have hds : w2.heap.size ≤ d := by omega
            clear hr2
            obtain ⟨wi, rfl⟩ : ∃ q, q = wr := ⟨_, rfl⟩
            go_wp2_with fail
            refine ⟨⟨j + 1, upd O v x, by omega, by go_num, Lib.hid ?_, Lib.hid ?_, Lib.hid ((hKp.out.fut hFo.out).set hds _), Lib.hid ((hFw.out.trans hFo.out).setCell (by simp only; omega) _), HR2⟩, by simp [intOf]; omega⟩
            · rw [List.take_add_one, HVJ.out, List.foldl_append, ← hO.out, HXE.out]; rfl
            · intro q
              by_cases e : q = v
              · subst e; rw [upd_same]; exact hIx.out
              · rw [upd_other _ _ _ _ e]; exact hIO.out q
      · have hOe : O = insO 0 0 mulN addN es ws n l := by
          rw [hO.out, List.take_of_length_le (by omega)]; rfl
        have HOE := Lib.hid hOe
        clear hOe
        go_wp2_with fail
        go_ret2
        refine ⟨⟨d, rfl, ?_⟩, hFw.out⟩
        have := rd_row (f := (Value.int .i64)) hrow.out
        rw [HOE.out] at this
        exact this
end Go.Proofs.Ytjoejkfchnooaaa
