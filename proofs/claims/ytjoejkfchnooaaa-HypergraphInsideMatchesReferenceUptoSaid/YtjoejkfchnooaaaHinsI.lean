/-
  Inside, walked, for numbers.
-/
import Derived.Test.YtjoejkfchnooaaaHins
namespace Go.Proofs.Ytjoejkfchnooaaa
open Go.RowKit
attribute [local go_sem] Oper.lit Oper.litS fut_fut fut_drew World.cell?_alloc_some
set_option maxHeartbeats 12800000 in
theorem insideI_any (T : TypeId) (fz fm fa : FuncId) (Z : Int) (mul add : Int → Int → Int) (Inv : Int → Prop)
    (hmZ : ∀ w : World, (method 190 T uu "Zero").run Try.prog w = .ok (fz, uu) w) (hmM : ∀ w : World, (method 190 T uu "Mul").run Try.prog w = .ok (fm, uu) w) (hnM : ∀ w : World, (nilAhead 190 T uu "Mul").run Try.prog w = .ok (some false) w) (hmA : ∀ w : World, (method 190 T uu "Add").run Try.prog w = .ok (fa, uu) w)
    (hcfZ : ∀ (args : Array Value) (w : World), (callFunc fz args).run Try.prog w = .ok (.enter fz args) w) (hcfM : ∀ (args : Array Value) (w : World), (callFunc fm args).run Try.prog w = .ok (.enter fm args) w) (hcfA : ∀ (args : Array Value) (w : World), (callFunc fa args).run Try.prog w = .ok (.enter fa args) w)
    (hcZ : ∀ w : World, Calls Try.prog fz #[uu] w fun e w' => e = .returned ((Value.int .i64) Z) ∧ Below w.heap.size w w')
    (hcM : ∀ (a b : Int) (w : World), Inv a → Inv b → Calls Try.prog fm #[uu, (Value.int .i64) a, (Value.int .i64) b] w fun e w' => e = .returned ((Value.int .i64) (mul a b)) ∧ Below w.heap.size w w')
    (hcA : ∀ (a b : Int) (w : World), Inv a → Inv b → Calls Try.prog fa #[uu, (Value.int .i64) a, (Value.int .i64) b] w fun e w' => e = .returned ((Value.int .i64) (add a b)) ∧ Below w.heap.size w w')
    (hIz : Inv Z) (hI0 : Inv 0) (hIm : ∀ a b, Inv a → Inv b → Inv (mul a b)) (hIa : ∀ a b, Inv a → Inv b → Inv (add a b))
    (N : Nat) (A B : Option Addr) (n c d : Nat) (es : List EI) (ws : List Int) (w : World) (hl : es.length = n) (hwl : ws.length = n) (hn : n ≤ 1000) (hval : validB N es = true) (htot : sumT es n ≤ 2000000) (hR : RdE w A es) (hRw : Rd1 w B ((Value.int .i64) ·) ws) (hwI : ∀ x ∈ ws, Inv x) :
    Calls Try.prog 23 #[hv N A n c, .iface T uu, .slice B n d] w fun e w' => InsRes (Value.int .i64) w' e N (insO Z 0 mul add es ws n) (ordS es N) ∧ Below w.heap.size w w' := by
  obtain ⟨hN1, hN, hhd, htl⟩ := valid_parts hval
  have HVAL := Lib.hid hval
  have HR := Lib.hid hR
  have HRW := Lib.hid hRw
  have HL := Lib.hid hl
  have HWL := Lib.hid hwl
  have HV := Lib.hid hhd
  have HT := Lib.hid htl
  have HTOT := Lib.hid htot
  have HCZ := Lib.hid hcZ
  have HCM := Lib.hid hcM
  have HCA := Lib.hid hcA
  have HIZ := Lib.hid hIz
  have HI0 := Lib.hid hI0
  have HIM := Lib.hid hIm
  have HIA := Lib.hid hIa
  have HWI := Lib.hid hwI
  clear hval hR hRw hl hwl hhd htl htot hcZ hcM hcA hIz hI0 hIm hIa hwI
  obtain ⟨i1, ki, kz0, kz1, kz2⟩ := info_parts info_int
  have hnm : n ≤ maxLen := by unfold maxLen; omega
  have HB0 := Lib.hid (show Fut w (w.alloc (.cells #[.int .i64 N, .slice A n c] 24)) from (Fut.refl w).alloc _)
  have b0 : ∀ dd os, (fut (w.alloc (.cells #[.int .i64 N, .slice A n c] 24)) dd os).cell? ⟨w.heap.size, 0, none⟩ = some (.int .i64 N) := cell_fut (by (first | (with_reducible assumption) | ((try simp (disch := first | (simp only [World.size_alloc, World.size_drew, World.size_setCell]; done) | (simp only [World.size_alloc, World.size_drew, World.size_setCell]; omega) | omega) only [cell_al_new, cell_al_old, cell_dr]); first | (with_reducible assumption) | rfl | (simp; done))))
  have b1 : ∀ dd os, (fut (w.alloc (.cells #[.int .i64 N, .slice A n c] 24)) dd os).cell? ⟨w.heap.size, 1, none⟩ = some (.slice A n c) := cell_fut (by (first | (with_reducible assumption) | ((try simp (disch := first | (simp only [World.size_alloc, World.size_drew, World.size_setCell]; done) | (simp only [World.size_alloc, World.size_drew, World.size_setCell]; omega) | omega) only [cell_al_new, cell_al_old, cell_dr]); first | (with_reducible assumption) | rfl | (simp; done))))
  have HBS := Lib.hid (show (w.alloc (.cells #[.int .i64 N, .slice A n c] 24)).heap.size = w.heap.size + 1 from World.size_alloc _ _)
  go_enter Try.func23, Try.ntmps23
  cases hor : ordS es N with
  | none =>
    have HOR := Lib.hid hor
    clear hor
    go_wp2_with (first
      | (go_at_call 12; refine (valid_any N A n c es _ HL.out hnm (HR.out.fut HB0.out)).mono ?_; rintro e w1 ⟨rfl, hb1⟩; rw [HVAL.out]; obtain ⟨dd, oo, rfl⟩ := fut_of hb1; clear hb1)
      | (go_at_call 20; refine (order_any N A n c es _ HL.out hn hN HV.out HT.out HTOT.out (HR.out.fut (HB0.out.trans (Fut.fut _ _ _)))).mono ?_; rintro e w2 ⟨he, hb2⟩; rw [HOR.out] at he; obtain rfl := he; have HB2 := Lib.hid hb2; clear hb2))
    go_ret2
    exact ⟨rfl, (HB0.out.trans (Fut.fut _ _ _)).trans HB2.out⟩
  | some l =>
    have HOR := Lib.hid hor
    clear hor
    go_wp2_with (first
      | (go_at_call 12; refine (valid_any N A n c es _ HL.out hnm (HR.out.fut HB0.out)).mono ?_; rintro e w1 ⟨rfl, hb1⟩; rw [HVAL.out]; obtain ⟨dd, oo, rfl⟩ := fut_of hb1; clear hb1)
      | (go_at_call 20; refine (order_any N A n c es _ HL.out hn hN HV.out HT.out HTOT.out (HR.out.fut (HB0.out.trans (Fut.fut _ _ _)))).mono ?_; rintro e w2 ⟨he, hb2⟩; rw [HOR.out] at he; obtain ⟨oA, oc, rfl, hol⟩ := he; obtain ⟨dd2, oo2, rfl⟩ := fut_of ((Fut.fut _ _ _).trans hb2); have HOL := Lib.hid hol; clear hb2 hol)
      | (go_at_call 32; refine (edges_any N A n c es _ HL.out hn hN HV.out (HR.out.fut (HB0.out.trans (Fut.fut _ _ _)))).mono ?_; rintro e w3 ⟨u, rfl, hL, hb3⟩; have HOL3 := Lib.hid (HOL.out.fut hb3); obtain ⟨dd3, oo3, rfl⟩ := fut_of ((Fut.fut _ _ _).trans hb3); have HLL := Lib.hid hL; clear hL hb3)
      | (refine wpList_make_row _ rfl (.tmp 42) (.tmp 42) 32 rfl 3 i1 ((Value.int .i64) 0) Try.underlying32 ki kz0 kz1 rfl .i64 .i64 N rfl rfl (by rw [kz2]; omega) (by omega) ?_))
    have hls := ordS_lt HOR.out
    have HLT := Lib.hid hls.1
    have hlN : l.length = N := hls.2
    clear hls
    rw [hlN]
    generalize hW2 : fut (w.alloc (.cells #[.int .i64 N, .slice A n c] 24)) dd3 oo3 = w2 at *
    have hFw2 : Fut w w2 := by rw [← hW2]; exact HB0.out.trans (Fut.fut _ _ _)
    have hbx2 : w2.cell? ⟨w.heap.size, 1, none⟩ = some (.slice A n c) := by rw [← hW2]; exact b1 _ _
    have HOL2 : Hid (Rd1 w2 oA nv l) := Lib.hid HOL3.out
    have hsz0 : w.heap.size ≤ w2.heap.size := hFw2.size
    have HROW := Lib.hid (World.rowIs_made w2 ((Value.int .i64) 0) N 3)
    have HK0 := Lib.hid ((Kp.refl w2).fut ((Fut.refl w2).alloc (.cells (madeCells #[(Value.int .i64) 0] N) 3)))
    have HFW := Lib.hid hFw2
    clear b0 b1 hW2 HBS HOL3 hFw2
    obtain ⟨d, hdd⟩ : ∃ d, w2.heap.size = d := ⟨_, rfl⟩
    rw [hdd] at HROW ⊢
    go_loopw [46] (fun i wr => ∃ (j : Nat) (O : Nat → Int), j ≤ N ∧ i = .int .i64 j ∧ Hid (O = (l.take j).foldl (insStep Z 0 mul add es ws n) (fun _ => 0)) ∧ Hid (∀ v, Inv (O v)) ∧ Hid (Kp w2 wr) ∧ Hid (Fut w wr) ∧ Hid (wr.rowIs d 3 N (fun i => (Value.int .i64) (O i)))) (fun i _ => N - (intOf i).toNat)
    case atStart => exact ⟨0, _, Nat.zero_le _, rfl, Lib.hid rfl, Lib.hid (fun _ => HI0.out), HK0, Lib.hid (HFW.out.alloc _), HROW⟩
    case round =>
      clear HK0 HROW
      obtain ⟨j, O, hj, rfl, hO, hIO, hKp, hFw, hrow⟩ := hrel
      by_cases hjl : j < N
      · obtain ⟨v, hv⟩ := get_lt hlN hjl
        obtain ⟨b3, o3, rfl, hcv⟩ := HOL2.out j v hv
        have hcv2 := hKp.out _ _ hcv
        have hvN := HLT.out v (List.mem_of_getElem? hv)
        obtain ⟨A2, c2, hcu, hrd2, _⟩ := HLL.out.2 v hvN
        have hll : (eof es n v).length ≤ n := eof_len es n v
        have HRD2 := Lib.hid hrd2
        have HCU := Lib.hid hcu
        have HVJ := Lib.hid hv
        clear hcv hv hcu hrd2
        obtain ⟨wo, rfl⟩ : ∃ x, x = wr := ⟨_, rfl⟩
        go_wp2_with (first | (refine (HCZ.out _).mono ?_; rintro e w4 ⟨rfl, hb4⟩; have hcu4 := (hKp.out.fut hb4) _ _ HCU.out; have HB4 := Lib.hid (show Fut wo w4 from hb4); clear hb4))
        clear hcv2 hcu4
        go_loopw [14, 57] (fun s i wr => ∃ (p : Nat) (x : Int), p ≤ (eof es n v).length ∧ i = .int .i64 p ∧ s = (Value.int .i64) x ∧ Hid (x = ((eof es n v).take p).foldl (fun s i => add s (edgeV mul es O (ws.getD i 0) i)) Z) ∧ Hid (Inv x) ∧ Hid (Fut wo wr)) (fun _ i _ => (eof es n v).length - (intOf i).toNat)
        case atStart => exact ⟨0, Z, Nat.zero_le _, rfl, rfl, Lib.hid rfl, HIZ, HB4⟩
        case round =>
          clear HB4
          obtain ⟨p, x, hp, rfl, rfl, hx, hIx, hFo⟩ := hrel
          by_cases hpl : p < (eof es n v).length
          · obtain ⟨i, hi⟩ := get_lt rfl hpl
            have hin := (mem_eof.1 (List.mem_of_getElem? hi)).1
            obtain ⟨b4, o4, rfl, hci⟩ := HRD2.out p i hi
            have hci2 := hFo.out.cell (hKp.out _ _ hci)
            obtain ⟨y, hy⟩ := get_lt HWL.out hin
            obtain ⟨b5, o5, rfl, hcw⟩ := HRW.out i y hy
            have hcw2 := (hFw.out.trans hFo.out).cell hcw
            obtain ⟨z, hz⟩ := get_lt HL.out hin
            obtain ⟨b6, o6, rfl, hce⟩ := HR.out.1 i z hz
            have hce2 := (hFw.out.trans hFo.out).cell (hce 1 _ (by decide) rfl)
            have hbx3 := hFo.out.cell (hKp.out _ _ hbx2)
            have HZT := Lib.hid (HR.out.2 z (List.mem_of_getElem? hz)).1
            have hzl : z.t.length ≤ 9223372036854775807 := (HR.out.2 z (List.mem_of_getElem? hz)).2
            have HZV := Lib.hid (HT.out z (List.mem_of_getElem? hz))
            have HTLZ := Lib.hid (tl_of hz)
            have HYI := Lib.hid (HWI.out y (List.mem_of_getElem? hy))
            have HYD := Lib.hid (show ws.getD i 0 = y from by rw [List.getD_eq_getElem?_getD, hy]; rfl)
            have HI := Lib.hid hi
            clear hi hci hy hcw hz hce
            obtain ⟨zh, zt, zc, zl0, zl1, zA, zk⟩ := z
            simp only at HZT hzl HZV HTLZ hce2
            obtain ⟨wi, rfl⟩ : ∃ q, q = wr := ⟨_, rfl⟩
            go_wp2_with fail
            clear hci2 hcw2 hce2 hbx3
            go_loopw [17, 72] (fun s i wr => ∃ (k : Nat) (a : Int), k ≤ zt.length ∧ i = .int .i64 k ∧ s = (Value.int .i64) a ∧ Hid (a = ((zt.map Int.toNat).take k).foldl (fun a t => mul a (O t)) y) ∧ Hid (Inv a) ∧ Hid (Fut wi wr)) (fun _ i _ => zt.length - (intOf i).toNat)
            case atStart => exact ⟨0, y, Nat.zero_le _, rfl, rfl, Lib.hid rfl, HYI, Lib.hid (Fut.refl _)⟩
            case round =>
              obtain ⟨k, a, hk, rfl, rfl, ha, hIa, hFi⟩ := hrel
              by_cases hkt : k < zt.length
              · obtain ⟨y2, hy2⟩ := get_lt rfl hkt
                have hyv := HZV.out y2 (List.mem_of_getElem? hy2)
                obtain ⟨t, rfl⟩ : ∃ t : Nat, y2 = t := Int.eq_ofNat_of_zero_le hyv.1
                have htN : t < N := by have := hyv.2; omega
                obtain ⟨b7, o7, rfl, hct⟩ := HZT.out k _ hy2
                have hct2 := ((hFw.out.trans hFo.out).trans hFi.out).cell hct
                have r0 : ∀ dd os, (fut wr dd os).cell? ⟨d, t, none⟩ = some ((Value.int .i64) (O t)) := cell_fut ((hFo.out.trans hFi.out).cell (hrow.out.cell htN))
                have HA2 := Lib.hid (show mul a (O t) = ((zt.map Int.toNat).take (k + 1)).foldl (fun a t => mul a (O t)) y from by
                  rw [List.take_add_one, List.getElem?_map, hy2, List.foldl_append, ← ha.out]; rfl)
                clear hy2 hyv hct
                obtain ⟨wk, rfl⟩ : ∃ q, q = wr := ⟨_, rfl⟩
                go_wp2_with fail
                refine wp_region_M o_hypergraph_Inside_int_19 (by kernel_rfl) (by kernel_rfl) (by intro c a d v w h; cases d <;> exact h) ?_; unfold o_hypergraph_Inside_int_19
                iterate 9 (refine wpF_h rfl rfl (fun K hK => ?_); go_simp; refine hK _ _ ?_; clear hK K)
                refine wpF_o rfl rfl (fun K hK => ?_)
                go_simp
                refine (HCM.out a (O t) _ hIa.out (hIO.out t)).mono ?_
                rintro e w5 ⟨rfl, hb5⟩
                refine hK _ _ (.inr hb5) ?_
                clear hK K
                have HB5 := Lib.hid ((hFi.out.drew).trans hb5)
                clear hb5
                repeat (refine wpF_h rfl rfl (fun K hK => ?_); go_simp; refine hK _ _ ?_; clear hK K)
                refine wpF_nil ?_
                go_wp2_with fail
                exact ⟨⟨k + 1, mul a (O t), by omega, by go_num, rfl, HA2, Lib.hid (HIM.out _ _ hIa.out (hIO.out t)), HB5⟩, by simp [intOf]; omega⟩
              · have HAE := Lib.hid (show a = edgeV mul es O y i from by
                  rw [ha.out, List.take_of_length_le (by rw [List.length_map]; omega)]
                  unfold edgeV; rw [HTLZ.out])
                go_wp2_with (refine (HCA.out x a _ hIx.out hIa.out).mono ?_; rintro e w6 ⟨rfl, hb6⟩; have HB6 := Lib.hid ((hFo.out.trans hFi.out).trans hb6); clear hb6)
                refine ⟨⟨p + 1, add x a, by omega, by go_num, rfl, Lib.hid ?_, Lib.hid (HIA.out _ _ hIx.out hIa.out), HB6⟩, by simp [intOf]; omega⟩
                rw [List.take_add_one, HI.out, List.foldl_append, ← hx.out]
                simp only [Option.toList_some, List.foldl_cons, List.foldl_nil]
                rw [HYD.out, ← HAE.out]
          · have hxe : x = nodeV Z 0 mul add es ws n O v := by
              rw [hx.out, List.take_of_length_le (by omega)]; rfl
            have HXE := Lib.hid hxe
            have hr2 : wr.rowIs d 3 N (fun i => (Value.int .i64) (O i)) := hrow.out.of_block (hFo.out.block d hrow.out.lt)
            have hcd := hr2.cell hvN
            have hfd := hr2.frozen v
            have HR2 := Lib.hid (row_upd (i := v) (x := x) hr2)
            have hds : w2.heap.size ≤ d := by omega
            clear hxe hr2
            obtain ⟨wi, rfl⟩ : ∃ q, q = wr := ⟨_, rfl⟩
            go_wp2_with fail
            refine ⟨⟨j + 1, upd O v x, by omega, by go_num, Lib.hid ?_, Lib.hid ?_, Lib.hid ((hKp.out.fut hFo.out).set hds _), Lib.hid ((hFw.out.trans hFo.out).setCell (by simp only; omega) _), HR2⟩, by simp [intOf]; omega⟩
            · rw [List.take_add_one, HVJ.out, List.foldl_append, ← hO.out, HXE.out]; rfl
            · intro q
              by_cases e : q = v
              · subst e; rw [upd_same]; exact hIx.out
              · rw [upd_other _ _ _ _ e]; exact hIO.out q
      · have hOe : O = insO Z 0 mul add es ws n l := by
          rw [hO.out, List.take_of_length_le (by omega)]; rfl
        have HOE := Lib.hid hOe
        clear hOe
        go_wp2_with fail
        go_ret2
        refine ⟨⟨d, rfl, ?_⟩, hFw.out⟩
        have := rd_row (f := (Value.int .i64)) hrow.out
        rw [HOE.out] at this
        exact this
end Go.Proofs.Ytjoejkfchnooaaa
