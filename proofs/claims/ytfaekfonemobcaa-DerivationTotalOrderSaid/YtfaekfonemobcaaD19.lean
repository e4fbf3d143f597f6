/-
  The laws of Compare, walked: they return true and turn nothing that was there.
-/
import Derived.Test.YtfaekfonemobcaaD18
namespace Go.Proofs.Ytfaekfonemobcaa
open Go.RowKit Go.Deep PK
attribute [local go_sem] Oper.lit Oper.litS fut_fut fut_drew World.cell?_alloc_some
attribute [local go_sem] fut_base_drew
set_option maxHeartbeats 12800000 in
theorem law_dcmp (N : Int) (A : Option Addr) (n c : Nat) (es : List EI) (root : Int) (a b d : DI) (w : World) (hl : es.length = n) (hn : n ≤ maxLen) (hR : RdE w A es) (ha : RdD w a) (hb : RdD w b) (hd : RdD w d) :
    Calls Try.prog 4 #[xv N A n c root a b d] w fun e w' => e = .returned (.bool true) ∧ Below w.heap.size w w' := by
  have HFA := Lib.hid (fun w' (hf : Fut w w') => fair_any N A n c es root a b d w' hl hn (hR.fut hf) (ha.fut hf) (hb.fut hf) (hd.fut hf))
  have HVA := Lib.hid (fun (hs : Fair N es) w' (hf : Fut w w') => rdvalid_any N A n c es hl hn (fair_valid hs) a root w' (hR.fut hf) (ha.fut hf))
  have HVB := Lib.hid (fun (hs : Fair N es) w' (hf : Fut w w') => rdvalid_any N A n c es hl hn (fair_valid hs) b root w' (hR.fut hf) (hb.fut hf))
  have HC := Lib.hid (fun (hs : Fair N es) hv hv2 w' (hf : Fut w w') => dcmp_any N A n c es hl hn (fair_valid hs) (fair_tl hs) a b root w' hv hv2 (hR.fut hf) (ha.fut hf) (hb.fut hf))
  have HRC := Lib.hid (fun (hs : Fair N es) hv hv2 w' (hf : Fut w w') => rdcmp_any N A n c es hl hn (fair_valid hs) (fair_tl hs) a b root w' hv hv2 (hR.fut hf) (ha.fut hf) (hb.fut hf))
  clear hl hn hR ha hb hd
  obtain ⟨ae, aA, ac, ak⟩ := a
  obtain ⟨be, bA, bc, bk⟩ := b
  obtain ⟨de, dA, dc, dk⟩ := d
  generalize validD (EEs es) (toDT (.node ae aA ac ak)) root = oa at *
  generalize validD (EEs es) (toDT (.node be bA bc bk)) root = ob at *
  generalize cmpD (EEs es) (toDT (.node ae aA ac ak)) (toDT (.node be bA bc bk)) = cab at *
  simp only [xv, dv, DI.e, DI.A, DI.c, DI.k] at *
  generalize ak.length = am at *
  generalize bk.length = bm at *
  generalize dk.length = dm at *
  obtain ⟨wb, hwb⟩ : ∃ wb, wb = w.alloc (.cells #[.int .i64 N, .slice A n c, .int .i64 root, .int .i64 ae, .slice aA am ac, .int .i64 be, .slice bA bm bc, .int .i64 de, .slice dA dm dc] 29) := ⟨_, rfl⟩
  have HF := Lib.hid (show Fut w wb from by rw [hwb]; exact (Fut.refl w).alloc _)
  have HB := Lib.hid (show Blk wb w.heap.size 29 #[.int .i64 N, .slice A n c, .int .i64 root, .int .i64 ae, .slice aA am ac, .int .i64 be, .slice bA bm bc, .int .i64 de, .slice dA dm dc] from by rw [hwb]; exact heap_new' _ _ _ rfl)
  go_enter Try.func4, Try.ntmps4
  go_wp2_with fail
  rw [← hwb]
  clear hwb
  refine (awake_any _).mono ?_
  rintro r w1 ⟨rfl, hb⟩
  have HF1 := Lib.hid (show Fut wb w1 from hb)
  clear hb
  have q0 := (HB.out.fut HF1.out).cell (i := 0) rfl
  have q1 := (HB.out.fut HF1.out).cell (i := 1) rfl
  have q2 := (HB.out.fut HF1.out).cell (i := 2) rfl
  have q3 := (HB.out.fut HF1.out).cell (i := 3) rfl
  have q4 := (HB.out.fut HF1.out).cell (i := 4) rfl
  have q5 := (HB.out.fut HF1.out).cell (i := 5) rfl
  have q6 := (HB.out.fut HF1.out).cell (i := 6) rfl
  have q7 := (HB.out.fut HF1.out).cell (i := 7) rfl
  have q8 := (HB.out.fut HF1.out).cell (i := 8) rfl
  go_wp2_with fail
  refine (HFA.out _ (HF.out.trans HF1.out)).mono ?_
  rintro r w2 ⟨⟨q, rfl, hq⟩, hb⟩
  have HF2 := Lib.hid (HF1.out.trans (show Fut w1 w2 from hb))
  have HQ := Lib.hid hq
  clear hb hq q0 q1 q2 q3 q4 q5 q6 q7 q8
  cases q with
  | false =>
    go_wp2_with fail
    go_ret
    exact ⟨rfl, HF.out.trans HF2.out⟩
  | true =>
    have hs := Lib.hid (HQ.out (by first | rfl | trivial))
    have q0 := (HB.out.fut HF2.out).cell (i := 0) rfl
    have q1 := (HB.out.fut HF2.out).cell (i := 1) rfl
    have q2 := (HB.out.fut HF2.out).cell (i := 2) rfl
    have q3 := (HB.out.fut HF2.out).cell (i := 3) rfl
    have q4 := (HB.out.fut HF2.out).cell (i := 4) rfl
    go_wp2_with fail
    refine (HVA.out hs.out _ (HF.out.trans HF2.out)).mono ?_
    rintro r w3 ⟨rfl, hb⟩
    have HF3 := Lib.hid (HF2.out.trans (show Fut w2 w3 from hb))
    clear hb q0 q1 q2 q3 q4
    cases oa with
    | false =>
      go_wp2_with fail
      go_ret
      exact ⟨rfl, HF.out.trans HF3.out⟩
    | true =>
      have q0 := (HB.out.fut HF3.out).cell (i := 0) rfl
      have q1 := (HB.out.fut HF3.out).cell (i := 1) rfl
      have q2 := (HB.out.fut HF3.out).cell (i := 2) rfl
      have q5 := (HB.out.fut HF3.out).cell (i := 5) rfl
      have q6 := (HB.out.fut HF3.out).cell (i := 6) rfl
      go_wp2_with fail
      refine (HVB.out hs.out _ (HF.out.trans HF3.out)).mono ?_
      rintro r w4 ⟨rfl, hb⟩
      have HF4 := Lib.hid (HF3.out.trans (show Fut w3 w4 from hb))
      clear hb q0 q1 q2 q5 q6
      cases ob with
      | false =>
        go_wp2_with fail
        go_ret
        exact ⟨rfl, HF.out.trans HF4.out⟩
      | true =>
        have q0 := cell_fut ((HB.out.fut HF4.out).cell (i := 0) rfl)
        have q1 := cell_fut ((HB.out.fut HF4.out).cell (i := 1) rfl)
        have q3 := cell_fut ((HB.out.fut HF4.out).cell (i := 3) rfl)
        have q4 := cell_fut ((HB.out.fut HF4.out).cell (i := 4) rfl)
        have q5 := cell_fut ((HB.out.fut HF4.out).cell (i := 5) rfl)
        have q6 := cell_fut ((HB.out.fut HF4.out).cell (i := 6) rfl)
        go_wp2_with fail
        refine wp_region_M o_emendatelaw30_DerivationCompareMatchesReference_5 (by kernel_rfl) (by kernel_rfl) (by intro c a d v w h; cases d <;> exact h) ?_; unfold o_emendatelaw30_DerivationCompareMatchesReference_5
        iterate 12 (refine wpF_h rfl rfl (fun K hK => ?_); go_simp; refine hK _ _ ?_; clear hK K)
        (refine wpF_o rfl rfl (fun K hK => ?_); go_simp; first | (go_at_call 16; refine (HC.out hs.out (by first | rfl | trivial) (by first | rfl | trivial) _ (HF.out.trans (HF4.out.trans (by show Fut _ _; repeat (first | (with_reducible assumption) | exact Fut.refl _ | exact Fut.fut _ _ _ | refine Fut.drew ?_ | refine Fut.alloc ?_ _ | refine Fut.trans ?_ (Fut.fut _ _ _) | refine Fut.trans ?_ (by assumption)))))).mono ?_; rintro e w1 ⟨rfl, hb1⟩; have hf1 : Fut _ w1 := hb1; refine hK _ _ (.inr hf1) ?_; clear hK K hb1))
        (refine wpF_o rfl rfl (fun K hK => ?_); go_simp; first | (go_at_call 17; refine (HRC.out hs.out (by first | rfl | trivial) (by first | rfl | trivial) _ (HF.out.trans (HF4.out.trans (by show Fut _ _; repeat (first | (with_reducible assumption) | exact Fut.refl _ | exact Fut.fut _ _ _ | refine Fut.drew ?_ | refine Fut.alloc ?_ _ | refine Fut.trans ?_ (Fut.fut _ _ _) | refine Fut.trans ?_ (by assumption)))))).mono ?_; rintro e w1 ⟨rfl, hb1⟩; have hf1 : Fut _ w1 := hb1; refine hK _ _ (.inr hf1) ?_; clear hK K hb1))
        iterate 2 (refine wpF_h rfl rfl (fun K hK => ?_); go_simp; refine hK _ _ ?_; clear hK K)
        refine wpF_nil ?_
        go_wp2_with fail
        go_ret
        exact ⟨rfl, HF.out.trans (HF4.out.trans (by show Fut _ _; repeat (first | (with_reducible assumption) | exact Fut.refl _ | exact Fut.fut _ _ _ | refine Fut.drew ?_ | refine Fut.alloc ?_ _ | refine Fut.trans ?_ (Fut.fut _ _ _) | refine Fut.trans ?_ (by assumption))))⟩
theorem tot_law (es : List EE) (a b d : DT) : cmpD es b a = - cmpD es a b ∧ (-1 ≤ cmpD es a b ∧ cmpD es a b ≤ 1) ∧ (cmpD es a b = 0 ↔ eqD a b = true) ∧ (cmpD es a b ≤ 0 → cmpD es b d ≤ 0 → cmpD es a d ≤ 0) := by
  refine ⟨cmpD_anti es a b, cmpD_bd es a b, ?_, cmpD_tr es a b d⟩
  rw [eqD_iff]
  exact ⟨cmpD_zero es a b, fun h => by rw [h]; exact cmpD_refl es b⟩
set_option maxHeartbeats 12800000 in
theorem law_dtot (N : Int) (A : Option Addr) (n c : Nat) (es : List EI) (root : Int) (a b d : DI) (w : World) (hl : es.length = n) (hn : n ≤ maxLen) (hR : RdE w A es) (ha : RdD w a) (hb : RdD w b) (hd : RdD w d) :
    Calls Try.prog 5 #[xv N A n c root a b d] w fun e w' => e = .returned (.bool true) ∧ Below w.heap.size w w' := by
  have HFA := Lib.hid (fun w' (hf : Fut w w') => fair_any N A n c es root a b d w' hl hn (hR.fut hf) (ha.fut hf) (hb.fut hf) (hd.fut hf))
  have HVA := Lib.hid (fun (hs : Fair N es) w' (hf : Fut w w') => rdvalid_any N A n c es hl hn (fair_valid hs) a root w' (hR.fut hf) (ha.fut hf))
  have HVB := Lib.hid (fun (hs : Fair N es) w' (hf : Fut w w') => rdvalid_any N A n c es hl hn (fair_valid hs) b root w' (hR.fut hf) (hb.fut hf))
  have HVD := Lib.hid (fun (hs : Fair N es) w' (hf : Fut w w') => rdvalid_any N A n c es hl hn (fair_valid hs) d root w' (hR.fut hf) (hd.fut hf))
  have HAB := Lib.hid (fun (hs : Fair N es) hv hv2 w' (hf : Fut w w') => dcmp_any N A n c es hl hn (fair_valid hs) (fair_tl hs) a b root w' hv hv2 (hR.fut hf) (ha.fut hf) (hb.fut hf))
  have HBA := Lib.hid (fun (hs : Fair N es) hv hv2 w' (hf : Fut w w') => dcmp_any N A n c es hl hn (fair_valid hs) (fair_tl hs) b a root w' hv hv2 (hR.fut hf) (hb.fut hf) (ha.fut hf))
  have HBD := Lib.hid (fun (hs : Fair N es) hv hv2 w' (hf : Fut w w') => dcmp_any N A n c es hl hn (fair_valid hs) (fair_tl hs) b d root w' hv hv2 (hR.fut hf) (hb.fut hf) (hd.fut hf))
  have HAD := Lib.hid (fun (hs : Fair N es) hv hv2 w' (hf : Fut w w') => dcmp_any N A n c es hl hn (fair_valid hs) (fair_tl hs) a d root w' hv hv2 (hR.fut hf) (ha.fut hf) (hd.fut hf))
  have HEQ := Lib.hid (fun w' (hf : Fut w w') => equal_any a b w' (ha.fut hf) (hb.fut hf))
  have HTO := Lib.hid (tot_law (EEs es) (toDT a) (toDT b) (toDT d))
  clear hl hn hR ha hb hd
  obtain ⟨ae, aA, ac, ak⟩ := a
  obtain ⟨be, bA, bc, bk⟩ := b
  obtain ⟨de, dA, dc, dk⟩ := d
  generalize validD (EEs es) (toDT (.node ae aA ac ak)) root = oa at *
  generalize validD (EEs es) (toDT (.node be bA bc bk)) root = ob at *
  generalize validD (EEs es) (toDT (.node de dA dc dk)) root = od at *
  generalize cmpD (EEs es) (toDT (.node ae aA ac ak)) (toDT (.node be bA bc bk)) = cab at *
  generalize cmpD (EEs es) (toDT (.node be bA bc bk)) (toDT (.node ae aA ac ak)) = cba at *
  generalize cmpD (EEs es) (toDT (.node be bA bc bk)) (toDT (.node de dA dc dk)) = cbd at *
  generalize cmpD (EEs es) (toDT (.node ae aA ac ak)) (toDT (.node de dA dc dk)) = cad at *
  generalize eqD (toDT (.node ae aA ac ak)) (toDT (.node be bA bc bk)) = eab at *
  simp only [xv, dv, DI.e, DI.A, DI.c, DI.k] at *
  generalize ak.length = am at *
  generalize bk.length = bm at *
  generalize dk.length = dm at *
  obtain ⟨wb, hwb⟩ : ∃ wb, wb = w.alloc (.cells #[.int .i64 N, .slice A n c, .int .i64 root, .int .i64 ae, .slice aA am ac, .int .i64 be, .slice bA bm bc, .int .i64 de, .slice dA dm dc] 29) := ⟨_, rfl⟩
  have HF := Lib.hid (show Fut w wb from by rw [hwb]; exact (Fut.refl w).alloc _)
  have HB := Lib.hid (show Blk wb w.heap.size 29 #[.int .i64 N, .slice A n c, .int .i64 root, .int .i64 ae, .slice aA am ac, .int .i64 be, .slice bA bm bc, .int .i64 de, .slice dA dm dc] from by rw [hwb]; exact heap_new' _ _ _ rfl)
  go_enter Try.func5, Try.ntmps5
  go_wp2_with fail
  rw [← hwb]
  clear hwb
  refine (awake_any _).mono ?_
  rintro r w1 ⟨rfl, hb⟩
  have HF1 := Lib.hid (show Fut wb w1 from hb)
  clear hb
  have q0 := (HB.out.fut HF1.out).cell (i := 0) rfl
  have q1 := (HB.out.fut HF1.out).cell (i := 1) rfl
  have q2 := (HB.out.fut HF1.out).cell (i := 2) rfl
  have q3 := (HB.out.fut HF1.out).cell (i := 3) rfl
  have q4 := (HB.out.fut HF1.out).cell (i := 4) rfl
  have q5 := (HB.out.fut HF1.out).cell (i := 5) rfl
  have q6 := (HB.out.fut HF1.out).cell (i := 6) rfl
  have q7 := (HB.out.fut HF1.out).cell (i := 7) rfl
  have q8 := (HB.out.fut HF1.out).cell (i := 8) rfl
  go_wp2_with fail
  refine (HFA.out _ (HF.out.trans HF1.out)).mono ?_
  rintro r w2 ⟨⟨q, rfl, hq⟩, hb⟩
  have HF2 := Lib.hid (HF1.out.trans (show Fut w1 w2 from hb))
  have HQ := Lib.hid hq
  clear hb hq q0 q1 q2 q3 q4 q5 q6 q7 q8
  cases q with
  | false =>
    go_wp2_with fail
    go_ret
    exact ⟨rfl, HF.out.trans HF2.out⟩
  | true =>
    have hs := Lib.hid (HQ.out (by first | rfl | trivial))
    have q0 := (HB.out.fut HF2.out).cell (i := 0) rfl
    have q1 := (HB.out.fut HF2.out).cell (i := 1) rfl
    have q2 := (HB.out.fut HF2.out).cell (i := 2) rfl
    have q3 := (HB.out.fut HF2.out).cell (i := 3) rfl
    have q4 := (HB.out.fut HF2.out).cell (i := 4) rfl
    go_wp2_with fail
    refine (HVA.out hs.out _ (HF.out.trans HF2.out)).mono ?_
    rintro r w3 ⟨rfl, hb⟩
    have HF3 := Lib.hid (HF2.out.trans (show Fut w2 w3 from hb))
    clear hb q0 q1 q2 q3 q4
    cases oa with
    | false =>
      go_wp2_with fail
      go_ret
      exact ⟨rfl, HF.out.trans HF3.out⟩
    | true =>
      have q0 := (HB.out.fut HF3.out).cell (i := 0) rfl
      have q1 := (HB.out.fut HF3.out).cell (i := 1) rfl
      have q2 := (HB.out.fut HF3.out).cell (i := 2) rfl
      have q5 := (HB.out.fut HF3.out).cell (i := 5) rfl
      have q6 := (HB.out.fut HF3.out).cell (i := 6) rfl
      go_wp2_with fail
      refine (HVB.out hs.out _ (HF.out.trans HF3.out)).mono ?_
      rintro r w4 ⟨rfl, hb⟩
      have HF4 := Lib.hid (HF3.out.trans (show Fut w3 w4 from hb))
      clear hb q0 q1 q2 q5 q6
      cases ob with
      | false =>
        go_wp2_with fail
        go_ret
        exact ⟨rfl, HF.out.trans HF4.out⟩
      | true =>
        have q0 := (HB.out.fut HF4.out).cell (i := 0) rfl
        have q1 := (HB.out.fut HF4.out).cell (i := 1) rfl
        have q2 := (HB.out.fut HF4.out).cell (i := 2) rfl
        have q7 := (HB.out.fut HF4.out).cell (i := 7) rfl
        have q8 := (HB.out.fut HF4.out).cell (i := 8) rfl
        go_wp2_with fail
        refine (HVD.out hs.out _ (HF.out.trans HF4.out)).mono ?_
        rintro r w5 ⟨rfl, hb⟩
        have HF5 := Lib.hid (HF4.out.trans (show Fut w4 w5 from hb))
        clear hb q0 q1 q2 q7 q8
        cases od with
        | false =>
          go_wp2_with fail
          go_ret
          exact ⟨rfl, HF.out.trans HF5.out⟩
        | true =>
          have q0 := cell_fut ((HB.out.fut HF5.out).cell (i := 0) rfl)
          have q1 := cell_fut ((HB.out.fut HF5.out).cell (i := 1) rfl)
          have q3 := cell_fut ((HB.out.fut HF5.out).cell (i := 3) rfl)
          have q4 := cell_fut ((HB.out.fut HF5.out).cell (i := 4) rfl)
          have q5 := cell_fut ((HB.out.fut HF5.out).cell (i := 5) rfl)
          have q6 := cell_fut ((HB.out.fut HF5.out).cell (i := 6) rfl)
          go_wp2_with fail
          refine wp_region_M o_emendatelaw30_DerivationTotalOrder_5 (by kernel_rfl) (by kernel_rfl) (by intro c a d v w h; cases d <;> exact h) ?_; unfold o_emendatelaw30_DerivationTotalOrder_5
          iterate 12 (refine wpF_h rfl rfl (fun K hK => ?_); go_simp; refine hK _ _ ?_; clear hK K)
          (refine wpF_o rfl rfl (fun K hK => ?_); go_simp; first | (go_at_call 16; refine (HAB.out hs.out (by first | rfl | trivial) (by first | rfl | trivial) _ (HF.out.trans (HF5.out.trans (by show Fut _ _; repeat (first | (with_reducible assumption) | exact Fut.refl _ | exact Fut.fut _ _ _ | refine Fut.drew ?_ | refine Fut.alloc ?_ _ | refine Fut.trans ?_ (Fut.fut _ _ _) | refine Fut.trans ?_ (by assumption)))))).mono ?_; rintro e w1 ⟨rfl, hb1⟩; have hf1 : Fut _ w1 := hb1; refine hK _ _ (.inr hf1) ?_; clear hK K hb1))
          (refine wpF_o rfl rfl (fun K hK => ?_); go_simp; first | (go_at_call 16; refine (HBA.out hs.out (by first | rfl | trivial) (by first | rfl | trivial) _ (HF.out.trans (HF5.out.trans (by show Fut _ _; repeat (first | (with_reducible assumption) | exact Fut.refl _ | exact Fut.fut _ _ _ | refine Fut.drew ?_ | refine Fut.alloc ?_ _ | refine Fut.trans ?_ (Fut.fut _ _ _) | refine Fut.trans ?_ (by assumption)))))).mono ?_; rintro e w1 ⟨rfl, hb1⟩; have hf1 : Fut _ w1 := hb1; refine hK _ _ (.inr hf1) ?_; clear hK K hb1))
          iterate 2 (refine wpF_h rfl rfl (fun K hK => ?_); go_simp; refine hK _ _ ?_; clear hK K)
          refine wpF_nil ?_
          have HF6 := Lib.hid (HF5.out.trans (show Fut _ w1 from (by show Fut _ _; repeat (first | (with_reducible assumption) | exact Fut.refl _ | exact Fut.fut _ _ _ | refine Fut.drew ?_ | refine Fut.alloc ?_ _ | refine Fut.trans ?_ (Fut.fut _ _ _) | refine Fut.trans ?_ (by assumption)))))
          clear q0 q1 q3 q4 q5 q6
          have q0 := cell_fut ((HB.out.fut HF6.out).cell (i := 0) rfl)
          have q1 := cell_fut ((HB.out.fut HF6.out).cell (i := 1) rfl)
          have q3 := cell_fut ((HB.out.fut HF6.out).cell (i := 3) rfl)
          have q4 := cell_fut ((HB.out.fut HF6.out).cell (i := 4) rfl)
          have q5 := cell_fut ((HB.out.fut HF6.out).cell (i := 5) rfl)
          have q6 := cell_fut ((HB.out.fut HF6.out).cell (i := 6) rfl)
          have q7 := cell_fut ((HB.out.fut HF6.out).cell (i := 7) rfl)
          have q8 := cell_fut ((HB.out.fut HF6.out).cell (i := 8) rfl)
          go_wp2_with fail
          refine wp_region_M o_emendatelaw30_DerivationTotalOrder_6 (by kernel_rfl) (by kernel_rfl) (by intro c a d v w h; cases d <;> exact h) ?_; unfold o_emendatelaw30_DerivationTotalOrder_6
          iterate 12 (refine wpF_h rfl rfl (fun K hK => ?_); go_simp; refine hK _ _ ?_; clear hK K)
          (refine wpF_o rfl rfl (fun K hK => ?_); go_simp; first | (go_at_call 16; refine (HBD.out hs.out (by first | rfl | trivial) (by first | rfl | trivial) _ (HF.out.trans (HF6.out.trans (by show Fut _ _; repeat (first | (with_reducible assumption) | exact Fut.refl _ | exact Fut.fut _ _ _ | refine Fut.drew ?_ | refine Fut.alloc ?_ _ | refine Fut.trans ?_ (Fut.fut _ _ _) | refine Fut.trans ?_ (by assumption)))))).mono ?_; rintro e w1 ⟨rfl, hb1⟩; have hf1 : Fut _ w1 := hb1; refine hK _ _ (.inr hf1) ?_; clear hK K hb1))
          (refine wpF_o rfl rfl (fun K hK => ?_); go_simp; first | (go_at_call 16; refine (HAD.out hs.out (by first | rfl | trivial) (by first | rfl | trivial) _ (HF.out.trans (HF6.out.trans (by show Fut _ _; repeat (first | (with_reducible assumption) | exact Fut.refl _ | exact Fut.fut _ _ _ | refine Fut.drew ?_ | refine Fut.alloc ?_ _ | refine Fut.trans ?_ (Fut.fut _ _ _) | refine Fut.trans ?_ (by assumption)))))).mono ?_; rintro e w1 ⟨rfl, hb1⟩; have hf1 : Fut _ w1 := hb1; refine hK _ _ (.inr hf1) ?_; clear hK K hb1))
          iterate 2 (refine wpF_h rfl rfl (fun K hK => ?_); go_simp; refine hK _ _ ?_; clear hK K)
          refine wpF_nil ?_
          have HF7 := Lib.hid (HF6.out.trans (show Fut _ w1 from (by show Fut _ _; repeat (first | (with_reducible assumption) | exact Fut.refl _ | exact Fut.fut _ _ _ | refine Fut.drew ?_ | refine Fut.alloc ?_ _ | refine Fut.trans ?_ (Fut.fut _ _ _) | refine Fut.trans ?_ (by assumption)))))
          clear q0 q1 q3 q4 q5 q6 q7 q8
          obtain ⟨t1, t2, t3, t4⟩ := HTO.out
          have hc : cab = -1 ∨ cab = 0 ∨ cab = 1 := by omega
          subst t1
          have q3 := (HB.out.fut HF7.out).cell (i := 3) rfl
          have q4 := (HB.out.fut HF7.out).cell (i := 4) rfl
          have q5 := (HB.out.fut HF7.out).cell (i := 5) rfl
          have q6 := (HB.out.fut HF7.out).cell (i := 6) rfl
          rcases hc with rfl | rfl | rfl
          · obtain rfl : eab = false := by cases eab with | false => rfl | true => exact absurd (t3.2 rfl) (by decide)
            clear t2 t3
            go_wp2_with fail
            refine (HEQ.out _ (HF.out.trans HF7.out)).mono ?_
            rintro r w9 ⟨rfl, hb⟩
            have HF9 := Lib.hid (HF7.out.trans (show Fut _ w9 from hb))
            clear hb q3 q4 q5 q6
            by_cases hbd : cbd ≤ 0
            · have t5 := t4 (by omega) hbd
              have g1 : ((0 : Int) < cbd) = False := eq_false (by omega)
              clear t4
              go_wp2_with fail
              go_ret
              exact ⟨rfl, HF.out.trans HF9.out⟩
            · have g1 : ((0 : Int) < cbd) = True := eq_true (by omega)
              clear t4
              go_wp2_with fail
              go_ret
              exact ⟨rfl, HF.out.trans HF9.out⟩
          · obtain rfl : eab = true := by exact t3.1 rfl
            clear t2 t3
            go_wp2_with fail
            refine (HEQ.out _ (HF.out.trans HF7.out)).mono ?_
            rintro r w9 ⟨rfl, hb⟩
            have HF9 := Lib.hid (HF7.out.trans (show Fut _ w9 from hb))
            clear hb q3 q4 q5 q6
            by_cases hbd : cbd ≤ 0
            · have t5 := t4 (by omega) hbd
              have g1 : ((0 : Int) < cbd) = False := eq_false (by omega)
              clear t4
              go_wp2_with fail
              go_ret
              exact ⟨rfl, HF.out.trans HF9.out⟩
            · have g1 : ((0 : Int) < cbd) = True := eq_true (by omega)
              clear t4
              go_wp2_with fail
              go_ret
              exact ⟨rfl, HF.out.trans HF9.out⟩
          · obtain rfl : eab = false := by cases eab with | false => rfl | true => exact absurd (t3.2 rfl) (by decide)
            clear t2 t3 t4
            go_wp2_with fail
            refine (HEQ.out _ (HF.out.trans HF7.out)).mono ?_
            rintro r w9 ⟨rfl, hb⟩
            have HF9 := Lib.hid (HF7.out.trans (show Fut _ w9 from hb))
            clear hb q3 q4 q5 q6
            go_wp2_with fail
            go_ret
            exact ⟨rfl, HF.out.trans HF9.out⟩
end Go.Proofs.Ytfaekfonemobcaa
