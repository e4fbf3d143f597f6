/-
  The law of what the parse attains, walked: it returns true and turns nothing that was there.
-/
import Derived.Test.YtleapckcihcpaaaN21
namespace Go.Proofs.Ytleapckcihcpaaa
open Go.RowKit Go.Deep PK
attribute [local go_sem] Oper.lit Oper.litS fut_fut fut_drew World.cell?_alloc_some
attribute [local go_sem] fut_base_drew
set_option maxHeartbeats 6400000 in
theorem law_iatt (T N st : Int) (A : Option Addr) (n c : Nat) (rs : List NR) (B : Option Addr) (m d : Nat) (ins : List Int) (v8 : Int) (w : World) (hl : rs.length = n) (hn : n ≤ maxLen) (hR : RdN w A rs) (hil : ins.length = m) (hm : m ≤ maxLen) (hI : Rd1 w B (.int .i64 ·) ins) (v8l : 0 ≤ v8) (v8h : v8 ≤ 255) :
    Calls Try.prog 5 #[nmv T N st A n c, .slice B m d, .int .u8 v8] w fun e w' => e = .returned (.bool true) ∧ Below w.heap.size w w' := by
  have HL := Lib.hid hl
  have HN := Lib.hid hn
  have HR := Lib.hid hR
  have HIL := Lib.hid hil
  have HM := Lib.hid hm
  have HI := Lib.hid hI
  have HSM := Lib.hid (fun w' => smallN_any T N st A n c B m d w' hn hm)
  clear hl hn hR hil hm hI
  obtain ⟨wb, hwb⟩ : ∃ wb, wb = w.alloc (.cells #[.int .i64 T, .int .i64 N, .int .i64 st, .slice A n c] 24) := ⟨_, rfl⟩
  have HF := Lib.hid (show Fut w wb from by rw [hwb]; exact (Fut.refl w).alloc _)
  have HB := Lib.hid (show Blk wb w.heap.size 24 #[.int .i64 T, .int .i64 N, .int .i64 st, .slice A n c] from by rw [hwb]; exact heap_new' _ _ _ rfl)
  go_enter Try.func5, Try.ntmps5
  go_wp2_with fail
  rw [← hwb]
  clear hwb
  refine (HSM.out _).mono ?_
  rintro r w1 ⟨rfl, hb⟩
  have HF1 := Lib.hid (show Fut wb w1 from hb)
  clear hb
  obtain ⟨sm, hsm⟩ : ∃ sm, smallN N n m = sm := ⟨_, rfl⟩
  have HS := Lib.hid hsm
  rw [hsm]
  clear hsm
  cases sm with
  | false =>
    go_wp2_with fail
    refine (awake_any _).mono ?_
    rintro r w2 ⟨rfl, hb⟩
    have HF2 := Lib.hid (HF1.out.trans (show Fut w1 w2 from hb))
    clear hb
    go_wp2_with fail
    go_ret
    exact ⟨rfl, HF.out.trans HF2.out⟩
  | true =>
    have HMO := Lib.hid (fun w' (hf : Fut w w') => moderate_any T N st A n c rs B m d ins w' HL.out HN.out (RdS.fut HR.out hf) HIL.out HM.out (HI.out.fut hf))
    have HV1 := Lib.hid (fun w' (hf : Fut w w') => values38_any T N st A n c rs B m d ins w' HL.out HN.out (RdS.fut HR.out hf) HIL.out HM.out (HI.out.fut hf))
    have HP1 := Lib.hid (fun head w' (hf : Fut w w') => ipar_any T N st A n c rs B m d ins head w' HL.out HN.out (RdS.fut HR.out hf) HIL.out HM.out (HI.out.fut hf))
    have q0 := (HB.out.fut HF1.out).cell (i := 0) rfl
    have q1 := (HB.out.fut HF1.out).cell (i := 1) rfl
    have q2 := (HB.out.fut HF1.out).cell (i := 2) rfl
    have q3 := (HB.out.fut HF1.out).cell (i := 3) rfl
    go_wp2_with fail
    refine (HMO.out _ (HF.out.trans HF1.out)).mono ?_
    rintro r w2 ⟨⟨mo, rfl, hmo⟩, hb⟩
    have HF2 := Lib.hid (HF1.out.trans (show Fut w1 w2 from hb))
    have HMD := Lib.hid hmo
    clear hb hmo HMO q0 q1 q2 q3
    cases mo with
    | false =>
      go_wp2_with fail
      refine (awake_any _).mono ?_
      rintro r w3 ⟨rfl, hb⟩
      have HF3 := Lib.hid (HF2.out.trans (show Fut w2 w3 from hb))
      clear hb
      go_wp2_with fail
      go_ret
      exact ⟨rfl, HF.out.trans HF3.out⟩
    | true =>
      obtain ⟨hvp, V, hsol, hsz⟩ := HMD.out rfl
      have HVP := Lib.hid hvp
      have HSO := Lib.hid hsol
      have HSZ := Lib.hid hsz
      have HBB := Lib.hid (show validN T N st rs = true ∧ pricesB T ins = true from by
        rw [Bool.and_eq_true] at hvp; exact hvp)
      have HNP := Lib.hid (validN_parts HBB.out.1)
      clear hvp hsol hsz HMD
      obtain ⟨M, rfl⟩ : ∃ M : Nat, N = M := ⟨N.toNat, by have := HNP.out.2.2.1; omega⟩
      have hM0 : 0 < M := by have := HNP.out.2.2.1; omega
      have hM1 : M ≤ 1000 := by have := HNP.out.2.2.2.1; omega
      have q0 := (HB.out.fut HF2.out).cell (i := 0) rfl
      have q1 := (HB.out.fut HF2.out).cell (i := 1) rfl
      have q2 := (HB.out.fut HF2.out).cell (i := 2) rfl
      have q3 := (HB.out.fut HF2.out).cell (i := 3) rfl
      have hwm : 0 ≤ v8 % (M : Int) ∧ v8 % (M : Int) < M := ⟨Int.emod_nonneg _ (by omega), Int.emod_lt_of_pos _ (by omega)⟩
      go_wp2_with fail
      obtain ⟨i, hi⟩ : ∃ i : Nat, v8 % (M : Int) = i := ⟨(v8 % (M : Int)).toNat, by omega⟩
      rw [hi] at hwm ⊢
      have hiM : i < M := by omega
      clear hi hwm q0 q1 q2 q3
      refine (HV1.out _ (HF.out.trans HF2.out)).mono ?_
      rintro r w3 ⟨hval, hb⟩
      have HF3 := Lib.hid (HF2.out.trans (show Fut w2 w3 from hb))
      rcases hval with ⟨h9, _⟩ | ⟨_, M', V', vb, hM', rfl, hsol', hrow, _⟩
      · rw [HVP.out] at h9; cases h9
      obtain rfl : M = M' := by omega
      obtain rfl := HSO.out.unique hsol'
      have HRW := Lib.hid hrow
      clear hb hsol' hrow hM' HV1
      have q0 := (HB.out.fut HF3.out).cell (i := 0) rfl
      have q1 := (HB.out.fut HF3.out).cell (i := 1) rfl
      have q2 := (HB.out.fut HF3.out).cell (i := 2) rfl
      have q3 := (HB.out.fut HF3.out).cell (i := 3) rfl
      go_wp2_with fail
      refine (HP1.out _ _ (HF.out.trans HF3.out)).mono ?_
      rintro r w4 ⟨⟨⟨xe, xA, xc, xk⟩, e, V', rfl, hrd, hpr⟩, hb⟩
      simp only [dv, DI.e, DI.A, DI.c, DI.k]
      obtain ⟨xn, hxn⟩ : ∃ xn, xk.length = xn := ⟨_, rfl⟩
      rw [hxn]
      have HXN := Lib.hid hxn
      have f34 : Fut w3 w4 := hb
      have f2 := (Fut.refl w4).alloc (.cells #[.int .i64 xe, .slice xA xn xc] 33)
      have HF4 := Lib.hid (HF3.out.trans (f34.trans f2))
      have HRD := Lib.hid (hrd.rd.fut f2)
      have HRX := Lib.hid ((HRW.out.fut f34).fut f2)
      have HBX := Lib.hid (show Blk (w4.alloc (.cells #[.int .i64 xe, .slice xA xn xc] 33)) w4.heap.size 33 #[.int .i64 xe, .slice xA xn xc] from heap_new' _ _ _ rfl)
      have HPR := Lib.hid (show (INF ≤ (V i).c ∧ e = 6 ∧ (DI.node xe xA xc xk) = .node 0 none 0 []) ∨ ((V i).c < INF ∧ e = 0 ∧ Fol V (grE ins rs) i (toDT (.node xe xA xc xk))) from by
        rcases hpr with ⟨h1, _⟩ | ⟨_, h1, _⟩ | ⟨_, _, h3, h4⟩
        · rw [HVP.out] at h1; cases h1
        · exact absurd ⟨by omega, by omega⟩ h1
        · obtain rfl := HSO.out.unique h3
          rw [Int.toNat_natCast] at h4
          rcases h4 with h4 | ⟨_, h4, _⟩ | ⟨g1, _, g2, g3⟩
          · exact .inl h4
          · have := HSZ.out i; omega
          · exact .inr ⟨g1, g2, g3⟩)
      clear hb hrd hpr hxn f2 f34 q0 q1 q2 q3 HP1 HRW
      have q1 := (HB.out.fut HF4.out).cell (i := 1) rfl
      have HVI := Lib.hid (HSO.out.ok i)
      have c0 := HRX.out.c hiM
      rcases HPR.out with ⟨h1, rfl, _⟩ | ⟨h1, rfl, h3⟩
      · have h2 : (V i).c = INF := by have := HVI.out.2.1; omega
        rw [h2] at c0
        unfold INF at c0
        clear h1 h2
        go_wp2_with fail
        generalize w4.alloc (.cells #[.int .i64 xe, .slice xA xn xc] 33) = w5 at *
        refine (awake_any _).mono ?_
        rintro r w6 ⟨rfl, hb⟩
        have f6 : Fut w5 w6 := hb
        have HF6 := Lib.hid (HF4.out.trans f6)
        have c0 := f6.cell c0
        clear hb q1
        go_wp2_with fail
        go_ret
        exact ⟨rfl, HF.out.trans HF6.out⟩
      · obtain ⟨hval, hvd⟩ := Fol.good (grE_ok HBB.out.1 HBB.out.2) HSO.out h1 h3
        have hse : (⟨sumC (grE ins rs) (toDT (.node xe xA xc xk)), sizD (toDT (.node xe xA xc xk))⟩ : VV) = V i := by
          rw [← hval]
          exact (sum_val (grE_ok HBB.out.1 HBB.out.2) (by rw [hval]; exact h1) (by rw [hval]; have := HSZ.out i; unfold INF; omega)).symm
        have hsd : sizD (toDT (.node xe xA xc xk)) ≤ 1000000 := by
          have h9 := congrArg VV.s hse
          simp only at h9
          rw [h9]; have := HSZ.out i; omega
        clear c0
        go_wp2_with fail
        generalize w4.alloc (.cells #[.int .i64 xe, .slice xA xn xc] 33) = w5 at *
        generalize w4.heap.size = xb at *
        have HVPC := Lib.hid (fun w' (hf : Fut w5 w') => vpar_any T M st A n c rs ins HL.out HN.out HBB.out.1 HBB.out.2 (.node xe xA xc xk) i w' (RdS.fut HR.out ((HF.out.trans HF4.out).trans hf)) (HRD.out.fut hf))
        have HCOC := Lib.hid (fun w' (hf : Fut w5 w') => cost_any T M st A n c rs B m d ins HL.out HIL.out HM.out HBB.out.1 HBB.out.2 (.node xe xA xc xk) i w' hvd hsd (RdS.fut HR.out ((HF.out.trans HF4.out).trans hf)) (HI.out.fut ((HF.out.trans HF4.out).trans hf)) (HRD.out.fut hf))
        rw [hvd] at HVPC
        rw [hse] at HCOC
        simp only [dv, DI.e, DI.A, DI.c, DI.k, HXN.out] at HVPC HCOC
        have c0 := cell_fut (HRX.out.c hiM)
        have c1 := cell_fut (HRX.out.s hiM)
        have x0 := cell_fut (HBX.out.cell (i := 0) rfl)
        have x1 := cell_fut (HBX.out.cell (i := 1) rfl)
        clear q1 hval hvd hse hsd h3
        have q0 := cell_fut ((HB.out.fut HF4.out).cell (i := 0) rfl)
        have q1 := cell_fut ((HB.out.fut HF4.out).cell (i := 1) rfl)
        have q2 := cell_fut ((HB.out.fut HF4.out).cell (i := 2) rfl)
        have q3 := cell_fut ((HB.out.fut HF4.out).cell (i := 3) rfl)
        refine wp_region_M o_emendatelaw38_InsertionAttained_10 (by kernel_rfl) (by kernel_rfl) (by intro c a d v w h; cases d <;> exact h) ?_; unfold o_emendatelaw38_InsertionAttained_10
        refine wpF_o rfl rfl (fun K hK => ?_)
        go_simp
        go_at_call 10
        refine (awake_any _).mono ?_
        rintro r w6 ⟨rfl, hb⟩
        have f6 : Fut w5 w6 := (Fut.refl w5).drew.trans hb
        refine hK _ _ (.inr hb) ?_
        clear hK K hb
        iterate 4 (refine wpF_h rfl rfl (fun K hK => ?_); go_simp; refine hK _ _ ?_; clear hK K)
        refine wpF_o rfl rfl (fun K hK => ?_)
        go_simp
        go_at_call 18
        refine (HVPC.out _ f6).mono ?_
        rintro r w7 ⟨rfl, hb⟩
        have f7 : Fut w5 w7 := f6.trans hb
        refine hK _ _ (.inr hb) ?_
        clear hK K hb
        iterate 9 (refine wpF_h rfl rfl (fun K hK => ?_); go_simp; refine hK _ _ ?_; clear hK K)
        refine wpF_o rfl rfl (fun K hK => ?_)
        go_simp
        go_at_call 19
        refine (HCOC.out _ f7).mono ?_
        rintro r w8 ⟨rfl, hb⟩
        have f8 : Fut w5 w8 := f7.trans hb
        refine hK _ _ (.inr hb) ?_
        clear hK K hb
        iterate 3 (refine wpF_h rfl rfl (fun K hK => ?_); go_simp; refine hK _ _ ?_; clear hK K)
        refine wpF_nil ?_
        go_wp2_with fail
        go_ret
        exact ⟨rfl, HF.out.trans (HF4.out.trans f8)⟩
end Go.Proofs.Ytleapckcihcpaaa
