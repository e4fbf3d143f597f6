/-
  The law of validity, walked: it returns true and turns nothing that was there.
-/
import Derived.Test.YtfaekfonemobcaaD16
import Derived.Test.YtfaekfonemobcaaD17
namespace Go.Proofs.Ytfaekfonemobcaa
open Go.RowKit Go.Deep PK
attribute [local go_sem] Oper.lit Oper.litS fut_fut fut_drew World.cell?_alloc_some
attribute [local go_sem] fut_base_drew
theorem fair_valid {N : Int} {es : List EI} (h : Fair N es) : validB N es = true := (smallB_parts h.1).2.2.2
theorem fair_tl {N : Int} {es : List EI} (h : Fair N es) : ∀ e ∈ es, e.t.length ≤ 1000000 := fun e he => Nat.le_trans ((smallB_parts h.1).2.2.1 e he) (by decide)
set_option maxHeartbeats 6400000 in
theorem law_dvalid (N : Int) (A : Option Addr) (n c : Nat) (es : List EI) (root : Int) (a b d : DI) (w : World) (hl : es.length = n) (hn : n ≤ maxLen) (hR : RdE w A es) (ha : RdD w a) (hb : RdD w b) (hd : RdD w d) :
    Calls Try.prog 3 #[xv N A n c root a b d] w fun e w' => e = .returned (.bool true) ∧ Below w.heap.size w w' := by
  have HFA := Lib.hid (fun w' (hf : Fut w w') => fair_any N A n c es root a b d w' hl hn (hR.fut hf) (ha.fut hf) (hb.fut hf) (hd.fut hf))
  have HV := Lib.hid (fun (hs : Fair N es) w' (hf : Fut w w') => dvalid_any N A n c es hl hn (fair_valid hs) a root w' (hR.fut hf) (ha.fut hf))
  have HRV := Lib.hid (fun (hs : Fair N es) w' (hf : Fut w w') => rdvalid_any N A n c es hl hn (fair_valid hs) a root w' (hR.fut hf) (ha.fut hf))
  have HW := Lib.hid (fun (hs : Fair N es) hv w' (hf : Fut w w') => dvalue_any N A n c es hl hn (fair_valid hs) (fair_tl hs) a root w' hv (hR.fut hf) (ha.fut hf))
  have HRW := Lib.hid (fun (hs : Fair N es) hv w' (hf : Fut w w') => rdvalue_any N A n c es hl hn (fair_valid hs) (fair_tl hs) a root w' hv (hR.fut hf) (ha.fut hf))
  clear hl hn hR ha hb hd
  obtain ⟨ae, aA, ac, ak⟩ := a
  obtain ⟨be, bA, bc, bk⟩ := b
  obtain ⟨de, dA, dc, dk⟩ := d
  generalize validD (EEs es) (toDT (.node ae aA ac ak)) root = ok at *
  generalize val (EEs es) (toDT (.node ae aA ac ak)) = va at *
  obtain ⟨v1, v2⟩ := va
  simp only [xv, dv, DI.e, DI.A, DI.c, DI.k] at *
  generalize ak.length = am at *
  generalize bk.length = bm at *
  generalize dk.length = dm at *
  obtain ⟨wb, hwb⟩ : ∃ wb, wb = w.alloc (.cells #[.int .i64 N, .slice A n c, .int .i64 root, .int .i64 ae, .slice aA am ac, .int .i64 be, .slice bA bm bc, .int .i64 de, .slice dA dm dc] 29) := ⟨_, rfl⟩
  have HF := Lib.hid (show Fut w wb from by rw [hwb]; exact (Fut.refl w).alloc _)
  have HB := Lib.hid (show Blk wb w.heap.size 29 #[.int .i64 N, .slice A n c, .int .i64 root, .int .i64 ae, .slice aA am ac, .int .i64 be, .slice bA bm bc, .int .i64 de, .slice dA dm dc] from by rw [hwb]; exact heap_new' _ _ _ rfl)
  go_enter Try.func3, Try.ntmps3
  go_wp2_with fail
  rw [← hwb]
  clear hwb
  refine (awake_any _).mono ?_
  rintro r w1 ⟨rfl, hb⟩
  have HF1 := Lib.hid (show Fut wb w1 from hb)
  clear hb
  have q0 := (HB.out.fut HF1.out).cell (i := 0) rfl
  have q1 := (HB.out.fut HF1.out).cell (i := 1) rfl
  have q2 := (HB.out.fut HF1.out).cell (i := 2) rfl
  have q3 := (HB.out.fut HF1.out).cell (i := 3) rfl
  have q4 := (HB.out.fut HF1.out).cell (i := 4) rfl
  have q5 := (HB.out.fut HF1.out).cell (i := 5) rfl
  have q6 := (HB.out.fut HF1.out).cell (i := 6) rfl
  have q7 := (HB.out.fut HF1.out).cell (i := 7) rfl
  have q8 := (HB.out.fut HF1.out).cell (i := 8) rfl
  go_wp2_with fail
  refine (HFA.out _ (HF.out.trans HF1.out)).mono ?_
  rintro r w2 ⟨⟨q, rfl, hq⟩, hb⟩
  have HF2 := Lib.hid (HF1.out.trans (show Fut w1 w2 from hb))
  have HQ := Lib.hid hq
  clear hb q0 q1 q2 q3 q4 q5 q6 q7 q8 hq
  cases q with
  | false =>
    go_wp2_with fail
    go_ret
    exact ⟨rfl, HF.out.trans HF2.out⟩
  | true =>
    have hs := Lib.hid (HQ.out (by first | rfl | trivial))
    have q0 := (HB.out.fut HF2.out).cell (i := 0) rfl
    have q1 := (HB.out.fut HF2.out).cell (i := 1) rfl
    have q2 := (HB.out.fut HF2.out).cell (i := 2) rfl
    have q3 := (HB.out.fut HF2.out).cell (i := 3) rfl
    have q4 := (HB.out.fut HF2.out).cell (i := 4) rfl
    go_wp2_with fail
    refine (HRV.out hs.out _ (HF.out.trans HF2.out)).mono ?_
    rintro r w3 ⟨rfl, hb⟩
    have HF3 := Lib.hid (HF2.out.trans (show Fut w2 w3 from hb))
    clear hb q0 q1 q2 q3 q4
    have q0 := cell_fut ((HB.out.fut HF3.out).cell (i := 0) rfl)
    have q1 := cell_fut ((HB.out.fut HF3.out).cell (i := 1) rfl)
    have q2 := cell_fut ((HB.out.fut HF3.out).cell (i := 2) rfl)
    have q3 := cell_fut ((HB.out.fut HF3.out).cell (i := 3) rfl)
    have q4 := cell_fut ((HB.out.fut HF3.out).cell (i := 4) rfl)
    go_wp2_with fail
    cases ok with
    | false =>
      refine wp_region_M o_emendatelaw30_DerivationValidMatchesReference_6 (by kernel_rfl) (by kernel_rfl) (by intro c a d v w h; cases d <;> exact h) ?_; unfold o_emendatelaw30_DerivationValidMatchesReference_6
      iterate 7 (refine wpF_h rfl rfl (fun K hK => ?_); go_simp; refine hK _ _ ?_; clear hK K)
      (refine wpF_o rfl rfl (fun K hK => ?_); go_simp; first | (go_at_call 13; refine (HV.out hs.out _ (HF.out.trans (HF3.out.trans (by show Fut _ _; repeat (first | (with_reducible assumption) | exact Fut.refl _ | exact Fut.fut _ _ _ | refine Fut.drew ?_ | refine Fut.alloc ?_ _ | refine Fut.trans ?_ (Fut.fut _ _ _) | refine Fut.trans ?_ (by assumption)))))).mono ?_; rintro e w1 ⟨rfl, hb1⟩; have hf1 : Fut _ w1 := hb1; refine hK _ _ (.inr hf1) ?_; clear hK K hb1))
      iterate 5 (refine wpF_h rfl rfl (fun K hK => ?_); go_simp; refine hK _ _ ?_; clear hK K)
      iterate 8 (refine wpF_hs2 rfl rfl (fun K hK => ?_); go_simp; refine hK _ _ ?_; clear hK K)
      iterate 2 (refine wpF_os2 rfl rfl (fun K hK => ?_); go_simp; refine hK _ _ ?_; clear hK K)
      (refine wpF_hs2 rfl rfl (fun K hK => ?_); go_simp; refine hK _ _ ?_; clear hK K)
      iterate 3 (refine wpF_h rfl rfl (fun K hK => ?_); go_simp; refine hK _ _ ?_; clear hK K)
      refine wpF_nil ?_
      go_wp2_with fail
      go_ret
      exact ⟨rfl, HF.out.trans (HF3.out.trans (by show Fut _ _; repeat (first | (with_reducible assumption) | exact Fut.refl _ | exact Fut.fut _ _ _ | refine Fut.drew ?_ | refine Fut.alloc ?_ _ | refine Fut.trans ?_ (Fut.fut _ _ _) | refine Fut.trans ?_ (by assumption))))⟩
    | true =>
      refine wp_region_M o_emendatelaw30_DerivationValidMatchesReference_6 (by kernel_rfl) (by kernel_rfl) (by intro c a d v w h; cases d <;> exact h) ?_; unfold o_emendatelaw30_DerivationValidMatchesReference_6
      iterate 7 (refine wpF_h rfl rfl (fun K hK => ?_); go_simp; refine hK _ _ ?_; clear hK K)
      (refine wpF_o rfl rfl (fun K hK => ?_); go_simp; first | (go_at_call 13; refine (HV.out hs.out _ (HF.out.trans (HF3.out.trans (by show Fut _ _; repeat (first | (with_reducible assumption) | exact Fut.refl _ | exact Fut.fut _ _ _ | refine Fut.drew ?_ | refine Fut.alloc ?_ _ | refine Fut.trans ?_ (Fut.fut _ _ _) | refine Fut.trans ?_ (by assumption)))))).mono ?_; rintro e w1 ⟨rfl, hb1⟩; have hf1 : Fut _ w1 := hb1; refine hK _ _ (.inr hf1) ?_; clear hK K hb1))
      iterate 13 (refine wpF_h rfl rfl (fun K hK => ?_); go_simp; refine hK _ _ ?_; clear hK K)
      (refine wpF_o rfl rfl (fun K hK => ?_); go_simp; first | (go_at_call 14; refine (HW.out hs.out (by first | rfl | trivial) _ (HF.out.trans (HF3.out.trans (by show Fut _ _; repeat (first | (with_reducible assumption) | exact Fut.refl _ | exact Fut.fut _ _ _ | refine Fut.drew ?_ | refine Fut.alloc ?_ _ | refine Fut.trans ?_ (Fut.fut _ _ _) | refine Fut.trans ?_ (by assumption)))))).mono ?_; rintro e w1 ⟨rfl, hb1⟩; have hf1 : Fut _ w1 := hb1; refine hK _ _ (.inr hf1) ?_; clear hK K hb1))
      (refine wpF_o rfl rfl (fun K hK => ?_); go_simp; first | (go_at_call 15; refine (HRW.out hs.out (by first | rfl | trivial) _ (HF.out.trans (HF3.out.trans (by show Fut _ _; repeat (first | (with_reducible assumption) | exact Fut.refl _ | exact Fut.fut _ _ _ | refine Fut.drew ?_ | refine Fut.alloc ?_ _ | refine Fut.trans ?_ (Fut.fut _ _ _) | refine Fut.trans ?_ (by assumption)))))).mono ?_; rintro e w1 ⟨rfl, hb1⟩; have hf1 : Fut _ w1 := hb1; refine hK _ _ (.inr hf1) ?_; clear hK K hb1))
      iterate 4 (refine wpF_h rfl rfl (fun K hK => ?_); go_simp; refine hK _ _ ?_; clear hK K)
      refine wpF_nil ?_
      go_wp2_with fail
      go_ret
      exact ⟨rfl, HF.out.trans (HF3.out.trans (by show Fut _ _; repeat (first | (with_reducible assumption) | exact Fut.refl _ | exact Fut.fut _ _ _ | refine Fut.drew ?_ | refine Fut.alloc ?_ _ | refine Fut.trans ?_ (Fut.fut _ _ _) | refine Fut.trans ?_ (by assumption))))⟩
end Go.Proofs.Ytfaekfonemobcaa
