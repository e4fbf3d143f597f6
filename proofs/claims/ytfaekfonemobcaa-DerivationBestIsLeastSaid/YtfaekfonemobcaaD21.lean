/-
  The law that Best is least, walked: it returns true and turns nothing that was there.
-/
import Derived.Test.YtfaekfonemobcaaD18
namespace Go.Proofs.Ytfaekfonemobcaa
open Go.RowKit Go.Deep PK
attribute [local go_sem] Oper.lit Oper.litS fut_fut fut_drew World.cell?_alloc_some
attribute [local go_sem] fut_base_drew
/-- a root of a valid tree is a node -/
theorem root_in {N : Int} {es : List EI} (hvd : validB N es = true) {root : Int} {a : DI} (hv : validD (EEs es) (toDT a) root = true) : 0 ≤ root ∧ root < N := by
  obtain ⟨e, A, c, k⟩ := a
  rw [toDT_eq] at hv
  obtain ⟨q, x, _, hx, rfl, _, _⟩ := validD_parts hvd hv
  have := okE_parts ((validB_parts hvd).2.2 x (List.mem_of_getElem? hx))
  exact ⟨this.1, this.2.1⟩
theorem least_law {N : Int} {es : List EI} {root : Int} {a : DI} (hs : Fair N es) (hv : validD (EEs es) (toDT a) root = true) : ∃ (M rt : Nat) (V : Nat → VV), N = M ∧ root = rt ∧ rt < M ∧ M ≤ 30 ∧ (smallB N es = true ∧ Sol (EEs es) V ∧ ∀ i, (V i).s ≤ 1000) ∧
    ((val (EEs es) (toDT a)).c < INF → ∀ d e, BestR N es V root d e → e = 0 ∧ validD (EEs es) (toDT d) root = true ∧ cmpD (EEs es) (toDT d) (toDT a) ≤ 0 ∧ val (EEs es) (toDT d) = V rt) := by
  have hvd := fair_valid hs
  obtain ⟨hsm, V, hS, hsz⟩ := hs
  obtain ⟨h0, h1⟩ := root_in hvd hv
  obtain ⟨rt, rfl⟩ : ∃ rt : Nat, root = rt := ⟨root.toNat, by omega⟩
  obtain ⟨M, rfl⟩ : ∃ M : Nat, N = M := ⟨N.toNat, by omega⟩
  have h30 := (smallB_parts hsm).1
  have hes := EEs_ok hvd
  refine ⟨M, rt, V, rfl, rfl, by omega, by omega, ⟨hsm, hS, hsz⟩, fun hf d e hb => ?_⟩
  have hle := le_val hes hS hv
  have hfin : (V rt).c < INF := by unfold leV at hle; omega
  rcases hb with ⟨h, _⟩ | ⟨_, h, _⟩ | ⟨_, _, h, _⟩ | ⟨_, _, _, rfl, h⟩
  · rw [hvd] at h; cases h
  · exact absurd ⟨h0, h1⟩ h
  · rw [Int.toNat_natCast] at h; omega
  · rw [Int.toNat_natCast] at h
    obtain ⟨g1, g2⟩ := h.good hes hS hfin
    exact ⟨rfl, g2, h.least hes hS hv hf, g1⟩
set_option maxHeartbeats 12800000 in
theorem law_dleast (N : Int) (A : Option Addr) (n c : Nat) (es : List EI) (root : Int) (a b d : DI) (w : World) (hl : es.length = n) (hn : n ≤ maxLen) (hR : RdE w A es) (ha : RdD w a) (hb : RdD w b) (hd : RdD w d) :
    Calls Try.prog 7 #[xv N A n c root a b d] w fun e w' => e = .returned (.bool true) ∧ Below w.heap.size w w' := by
  have HFA := Lib.hid (fun w' (hf : Fut w w') => fair_any N A n c es root a b d w' hl hn (hR.fut hf) (ha.fut hf) (hb.fut hf) (hd.fut hf))
  have HVA := Lib.hid (fun (hs : Fair N es) w' (hf : Fut w w') => rdvalid_any N A n c es hl hn (fair_valid hs) a root w' (hR.fut hf) (ha.fut hf))
  have HRW := Lib.hid (fun (hs : Fair N es) hv w' (hf : Fut w w') => rdvalue_any N A n c es hl hn (fair_valid hs) (fair_tl hs) a root w' hv (hR.fut hf) (ha.fut hf))
  have HPL := Lib.hid (fun (hs : Fair N es) hv => least_law (N := N) (es := es) (root := root) (a := a) hs hv)
  have HRA := Lib.hid ha
  have HR := Lib.hid hR
  have HL := Lib.hid hl
  have HN := Lib.hid hn
  have hn63 : n ≤ 9223372036854775807 := hn
  clear hl hn hR ha hb hd
  obtain ⟨ae, aA, ac, ak⟩ := a
  obtain ⟨be, bA, bc, bk⟩ := b
  obtain ⟨de, dA, dc, dk⟩ := d
  obtain ⟨am, ham⟩ : ∃ am, ak.length = am := ⟨_, rfl⟩
  have HAM := Lib.hid ham
  obtain ⟨oa, hoa⟩ : ∃ oa, validD (EEs es) (toDT (.node ae aA ac ak)) root = oa := ⟨_, rfl⟩
  have HOA := Lib.hid hoa
  obtain ⟨va, hva⟩ : ∃ va, val (EEs es) (toDT (.node ae aA ac ak)) = va := ⟨_, rfl⟩
  have HVV := Lib.hid hva
  rw [hoa] at HVA HPL HRW
  rw [hva] at HRW HPL
  obtain ⟨v1, v2⟩ := va
  simp only [xv, dv, DI.e, DI.A, DI.c, DI.k, ham] at HFA HVA HRW ⊢
  clear ham hoa hva
  generalize bk.length = bm at *
  generalize dk.length = dm at *
  obtain ⟨wb, hwb⟩ : ∃ wb, wb = w.alloc (.cells #[.int .i64 N, .slice A n c, .int .i64 root, .int .i64 ae, .slice aA am ac, .int .i64 be, .slice bA bm bc, .int .i64 de, .slice dA dm dc] 29) := ⟨_, rfl⟩
  have HF := Lib.hid (show Fut w wb from by rw [hwb]; exact (Fut.refl w).alloc _)
  have HB := Lib.hid (show Blk wb w.heap.size 29 #[.int .i64 N, .slice A n c, .int .i64 root, .int .i64 ae, .slice aA am ac, .int .i64 be, .slice bA bm bc, .int .i64 de, .slice dA dm dc] from by rw [hwb]; exact heap_new' _ _ _ rfl)
  go_enter Try.func7, Try.ntmps7
  go_wp2_with fail
  rw [← hwb]
  clear hwb
  refine (awake_any _).mono ?_
  rintro r w1 ⟨rfl, hb⟩
  have HF1 := Lib.hid (show Fut wb w1 from hb)
  clear hb
  have q0 := (HB.out.fut HF1.out).cell (i := 0) rfl
  have q1 := (HB.out.fut HF1.out).cell (i := 1) rfl
  have q2 := (HB.out.fut HF1.out).cell (i := 2) rfl
  have q3 := (HB.out.fut HF1.out).cell (i := 3) rfl
  have q4 := (HB.out.fut HF1.out).cell (i := 4) rfl
  have q5 := (HB.out.fut HF1.out).cell (i := 5) rfl
  have q6 := (HB.out.fut HF1.out).cell (i := 6) rfl
  have q7 := (HB.out.fut HF1.out).cell (i := 7) rfl
  have q8 := (HB.out.fut HF1.out).cell (i := 8) rfl
  go_wp2_with fail
  refine (HFA.out _ (HF.out.trans HF1.out)).mono ?_
  rintro r w2 ⟨⟨q, rfl, hq⟩, hb⟩
  have HF2 := Lib.hid (HF1.out.trans (show Fut w1 w2 from hb))
  have HQ := Lib.hid hq
  clear hb hq q0 q1 q2 q3 q4 q5 q6 q7 q8
  cases q with
  | false =>
    go_wp2_with fail
    go_ret
    exact ⟨rfl, HF.out.trans HF2.out⟩
  | true =>
    have hs := Lib.hid (HQ.out (by first | rfl | trivial))
    have q0 := (HB.out.fut HF2.out).cell (i := 0) rfl
    have q1 := (HB.out.fut HF2.out).cell (i := 1) rfl
    have q2 := (HB.out.fut HF2.out).cell (i := 2) rfl
    have q3 := (HB.out.fut HF2.out).cell (i := 3) rfl
    have q4 := (HB.out.fut HF2.out).cell (i := 4) rfl
    go_wp2_with fail
    refine (HVA.out hs.out _ (HF.out.trans HF2.out)).mono ?_
    rintro r w3 ⟨rfl, hb⟩
    have HF3 := Lib.hid (HF2.out.trans (show Fut w2 w3 from hb))
    clear hb q0 q1 q2 q3 q4
    cases oa with
    | false =>
      go_wp2_with fail
      go_ret
      exact ⟨rfl, HF.out.trans HF3.out⟩
    | true =>
      have q0 := (HB.out.fut HF3.out).cell (i := 0) rfl
      have q1 := (HB.out.fut HF3.out).cell (i := 1) rfl
      have q3 := (HB.out.fut HF3.out).cell (i := 3) rfl
      have q4 := (HB.out.fut HF3.out).cell (i := 4) rfl
      go_wp2_with fail
      refine (HRW.out hs.out (by first | rfl | trivial) _ (HF.out.trans HF3.out)).mono ?_
      rintro r w4 ⟨rfl, hb⟩
      have HF4 := Lib.hid (HF3.out.trans (show Fut w3 w4 from hb))
      clear hb q0 q1 q3 q4
      have HV1 := Lib.hid (HF4.out.trans ((Fut.refl w4).alloc (.cells #[.int .i64 v1, .int .i64 v2] 34)))
      have BV := Lib.hid (show Blk (w4.alloc (.cells #[.int .i64 v1, .int .i64 v2] 34)) w4.heap.size 34 #[.int .i64 v1, .int .i64 v2] from heap_new' _ _ _ rfl)
      obtain ⟨M, rt, V, rfl, rfl, hrt, hM, hSV, hpl⟩ := HPL.out hs.out (by first | rfl | trivial)
      have HSV := Lib.hid (fun _ : validB (M : Int) es = true => hSV)
      have HPB := Lib.hid hpl
      clear hSV hpl
      have q0 := ((Fut.refl w4).alloc (.cells #[.int .i64 v1, .int .i64 v2] 34)).cell ((HB.out.fut HF4.out).cell (i := 0) rfl)
      have q1 := ((Fut.refl w4).alloc (.cells #[.int .i64 v1, .int .i64 v2] 34)).cell ((HB.out.fut HF4.out).cell (i := 1) rfl)
      have q2 := ((Fut.refl w4).alloc (.cells #[.int .i64 v1, .int .i64 v2] 34)).cell ((HB.out.fut HF4.out).cell (i := 2) rfl)
      go_wp2_with fail
      generalize w4.alloc (.cells #[.int .i64 v1, .int .i64 v2] 34) = u1 at *
      refine (best_any M A n c es HL.out HN.out V HSV.out rt _ (HR.out.fut (HF.out.trans HV1.out))).mono ?_
      rintro r u2 ⟨⟨⟨xe, xA, xc, xk⟩, f, rfl, hrd, hbr⟩, hb⟩
      have hu2 : Fut u1 u2 := hb
      have HU2 := Lib.hid (HV1.out.trans hu2)
      have HD := Lib.hid hrd.rd
      have HBR := Lib.hid hbr
      have BV2 := Lib.hid (BV.out.fut hu2)
      simp only [dv, DI.e, DI.A, DI.c, DI.k]
      obtain ⟨xn, hxn⟩ : ∃ xn, xk.length = xn := ⟨_, rfl⟩
      rw [hxn]
      have HXN := Lib.hid hxn
      clear hb hrd hbr hu2 hxn q0 q1 q2 BV HV1
      have hu3 := (Fut.refl u2).alloc (.cells #[.int .i64 xe, .slice xA xn xc] 27)
      have BX := Lib.hid (show Blk (u2.alloc (.cells #[.int .i64 xe, .slice xA xn xc] 27)) u2.heap.size 27 #[.int .i64 xe, .slice xA xn xc] from heap_new' _ _ _ rfl)
      have HU3 := Lib.hid (HU2.out.trans hu3)
      have HD3 := Lib.hid (HD.out.fut hu3)
      have q0 := (BV2.out.fut hu3).cell (i := 0) rfl
      clear hu3 HD HU2 BV2
      by_cases hinf : (1099511627776 : Int) ≤ v1
      · go_wp2_with fail
        go_ret
        exact ⟨rfl, HF.out.trans HU3.out⟩
      · have HLT := Lib.hid (show v1 < INF by unfold INF; omega)
        obtain ⟨rfl, hvd, hcm, hvl⟩ := HPB.out HLT.out _ _ HBR.out
        have HVD := Lib.hid hvd
        have HCM := Lib.hid hcm
        have HVL := Lib.hid hvl
        clear hvd hcm hvl
        have p0 := (HB.out.fut HU3.out).cell (i := 0) rfl
        have p1 := (HB.out.fut HU3.out).cell (i := 1) rfl
        go_wp2_with fail
        generalize u2.alloc (.cells #[.int .i64 xe, .slice xA xn xc] 27) = u3 at *
        have hn6 : n ≤ 1000000 := by
          have := (smallB_parts hs.out.1).2.1
          rw [HL.out] at this; omega
        refine (rsolve_any M A n c es _ HL.out hn6 (fair_valid hs.out) (fair_tl hs.out) (HR.out.fut (HF.out.trans HU3.out))).mono ?_
        rintro r u4 ⟨⟨V', vb, eb, rfl, hs', hv', hi', _, _⟩, hb⟩
        obtain rfl := hs'.unique (HSV.out (fair_valid hs.out)).2.1
        have hu4 : Fut u3 u4 := hb
        have HU4 := Lib.hid (HU3.out.trans hu4)
        have q0 := cell_fut ((HB.out.fut HU4.out).cell (i := 0) rfl)
        have q1 := cell_fut ((HB.out.fut HU4.out).cell (i := 1) rfl)
        have q2 := cell_fut ((HB.out.fut HU4.out).cell (i := 2) rfl)
        have q3 := cell_fut ((HB.out.fut HU4.out).cell (i := 3) rfl)
        have q4 := cell_fut ((HB.out.fut HU4.out).cell (i := 4) rfl)
        have y0 := cell_fut ((BX.out.fut hu4).cell (i := 0) rfl)
        have y1 := cell_fut ((BX.out.fut hu4).cell (i := 1) rfl)
        have cv := cell_fut (hv'.c hrt)
        have cw := cell_fut (hv'.s hrt)
        have HD4 := Lib.hid (HD3.out.fut hu4)
        clear hs' hv' hi' hb hu4 p0 p1 HD3 hn6
        have K1 := Lib.hid (fun w' (hf : Fut u4 w') => rdvalid_any M A n c es HL.out HN.out (fair_valid hs.out) (.node xe xA xc xk) rt w' (HR.out.fut ((HF.out.trans HU4.out).trans hf)) (HD4.out.fut hf))
        have K2 := Lib.hid (fun w' (hf : Fut u4 w') => rdcmp_any M A n c es HL.out HN.out (fair_valid hs.out) (fair_tl hs.out) (.node xe xA xc xk) (.node ae aA ac ak) rt w' HVD.out HOA.out (HR.out.fut ((HF.out.trans HU4.out).trans hf)) (HD4.out.fut hf) (HRA.out.fut ((HF.out.trans HU4.out).trans hf)))
        have K3 := Lib.hid (fun w' (hf : Fut u4 w') => rdvalue_any M A n c es HL.out HN.out (fair_valid hs.out) (fair_tl hs.out) (.node xe xA xc xk) rt w' HVD.out (HR.out.fut ((HF.out.trans HU4.out).trans hf)) (HD4.out.fut hf))
        rw [HVD.out] at K1
        rw [HVL.out] at K3
        generalize cmpD (EEs es) (toDT (.node xe xA xc xk)) (toDT (.node ae aA ac ak)) = z at K2 HCM
        generalize V' rt = vr at K3 cv cw
        obtain ⟨r1, r2⟩ := vr
        simp only [dv, DI.e, DI.A, DI.c, DI.k, HXN.out, HAM.out] at K1 K2 K3
        have z1 : (z ≤ 0) = True := eq_true HCM.out
        have hg1 : ¬ ((n : Int) ≤ 0 ∧ False) := by simp
        go_wp2_with fail
        refine wp_region_M o_emendatelaw30_DerivationBestIsLeast_10 (by kernel_rfl) (by kernel_rfl) (by intro c a d v w h; cases d <;> exact h) ?_; unfold o_emendatelaw30_DerivationBestIsLeast_10
        iterate 8 (refine wpF_h rfl rfl (fun K hK => ?_); go_simp; refine hK _ _ ?_; clear hK K)
        (refine wpF_o rfl rfl (fun K hK => ?_); go_simp; first | (go_at_call 12; refine (K1.out _ (by show Fut _ _; repeat (first | (with_reducible assumption) | exact Fut.refl _ | exact Fut.fut _ _ _ | refine Fut.drew ?_ | refine Fut.alloc ?_ _ | refine Fut.trans ?_ (Fut.fut _ _ _) | refine Fut.trans ?_ (by assumption)))).mono ?_; rintro e w1 ⟨rfl, hb1⟩; have hf1 : Fut _ w1 := hb1; refine hK _ _ (.inr hf1) ?_; clear hK K hb1))
        iterate 7 (refine wpF_h rfl rfl (fun K hK => ?_); go_simp; refine hK _ _ ?_; clear hK K)
        (refine wpF_o rfl rfl (fun K hK => ?_); go_simp; first | (go_at_call 17; refine (K2.out _ (by show Fut _ _; repeat (first | (with_reducible assumption) | exact Fut.refl _ | exact Fut.fut _ _ _ | refine Fut.drew ?_ | refine Fut.alloc ?_ _ | refine Fut.trans ?_ (Fut.fut _ _ _) | refine Fut.trans ?_ (by assumption)))).mono ?_; rintro e w1 ⟨rfl, hb1⟩; have hf1 : Fut _ w1 := hb1; refine hK _ _ (.inr hf1) ?_; clear hK K hb1))
        iterate 11 (refine wpF_h rfl rfl (fun K hK => ?_); go_simp; refine hK _ _ ?_; clear hK K)
        (refine wpF_o rfl rfl (fun K hK => ?_); go_simp; first | (go_at_call 15; refine (K3.out _ (by show Fut _ _; repeat (first | (with_reducible assumption) | exact Fut.refl _ | exact Fut.fut _ _ _ | refine Fut.drew ?_ | refine Fut.alloc ?_ _ | refine Fut.trans ?_ (Fut.fut _ _ _) | refine Fut.trans ?_ (by assumption)))).mono ?_; rintro e w1 ⟨rfl, hb1⟩; have hf1 : Fut _ w1 := hb1; refine hK _ _ (.inr hf1) ?_; clear hK K hb1))
        iterate 3 (refine wpF_h rfl rfl (fun K hK => ?_); go_simp; refine hK _ _ ?_; clear hK K)
        refine wpF_nil ?_
        go_wp2_with fail
        go_ret
        exact ⟨rfl, HF.out.trans (HU4.out.trans (by show Fut _ _; repeat (first | (with_reducible assumption) | exact Fut.refl _ | exact Fut.fut _ _ _ | refine Fut.drew ?_ | refine Fut.alloc ?_ _ | refine Fut.trans ?_ (Fut.fut _ _ _) | refine Fut.trans ?_ (by assumption))))⟩
end Go.Proofs.Ytfaekfonemobcaa
