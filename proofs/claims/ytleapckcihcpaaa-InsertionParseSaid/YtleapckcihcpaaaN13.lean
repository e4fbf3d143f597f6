/-
  The laws of the values and of the parse, walked: they return true and turn nothing that was there.
-/
import Derived.Test.YtleapckcihcpaaaN12
namespace Go.Proofs.Ytleapckcihcpaaa
open Go.RowKit Go.Deep PK
attribute [local go_sem] Oper.lit Oper.litS fut_fut fut_drew World.cell?_alloc_some
attribute [local go_sem] fut_base_drew
set_option maxHeartbeats 6400000 in
theorem law_ivalues (T N st : Int) (A : Option Addr) (n c : Nat) (rs : List NR) (B : Option Addr) (m d : Nat) (ins : List Int) (w : World) (hl : rs.length = n) (hn : n ≤ maxLen) (hR : RdN w A rs) (hil : ins.length = m) (hm : m ≤ maxLen) (hI : Rd1 w B (.int .i64 ·) ins) :
    Calls Try.prog 3 #[nmv T N st A n c, .slice B m d] w fun e w' => e = .returned (.bool true) ∧ Below w.heap.size w w' := by
  have HL := Lib.hid hl
  have HN := Lib.hid hn
  have HR := Lib.hid hR
  have HIL := Lib.hid hil
  have HM := Lib.hid hm
  have HI := Lib.hid hI
  have HSM := Lib.hid (fun w' => smallN_any T N st A n c B m d w' hn hm)
  clear hl hn hR hil hm hI
  obtain ⟨wb, hwb⟩ : ∃ wb, wb = w.alloc (.cells #[.int .i64 T, .int .i64 N, .int .i64 st, .slice A n c] 24) := ⟨_, rfl⟩
  have HF := Lib.hid (show Fut w wb from by rw [hwb]; exact (Fut.refl w).alloc _)
  have HB := Lib.hid (show Blk wb w.heap.size 24 #[.int .i64 T, .int .i64 N, .int .i64 st, .slice A n c] from by rw [hwb]; exact heap_new' _ _ _ rfl)
  go_enter Try.func3, Try.ntmps3
  go_wp2_with fail
  rw [← hwb]
  clear hwb
  refine (HSM.out _).mono ?_
  rintro r w1 ⟨rfl, hb⟩
  have HF1 := Lib.hid (show Fut wb w1 from hb)
  clear hb
  obtain ⟨sm, hsm⟩ : ∃ sm, smallN N n m = sm := ⟨_, rfl⟩
  have HS := Lib.hid hsm
  rw [hsm]
  clear hsm
  cases sm with
  | false =>
    go_wp2_with fail
    refine (awake_any _).mono ?_
    rintro r w2 ⟨rfl, hb⟩
    have HF2 := Lib.hid (HF1.out.trans (show Fut w1 w2 from hb))
    clear hb
    go_wp2_with fail
    go_ret
    exact ⟨rfl, HF.out.trans HF2.out⟩
  | true =>
    have HV1 := Lib.hid (fun w' (hf : Fut w w') => values38_any T N st A n c rs B m d ins w' HL.out HN.out (RdS.fut HR.out hf) HIL.out HM.out (HI.out.fut hf))
    have HV2 := Lib.hid (fun w' (hf : Fut w w') => rvalues38_any T N st A n c rs B m d ins w' HL.out HN.out (RdS.fut HR.out hf) HIL.out HM.out (HI.out.fut hf))
    have q0 := cell_fut ((HB.out.fut HF1.out).cell (i := 0) rfl)
    have q1 := cell_fut ((HB.out.fut HF1.out).cell (i := 1) rfl)
    have q2 := cell_fut ((HB.out.fut HF1.out).cell (i := 2) rfl)
    have q3 := cell_fut ((HB.out.fut HF1.out).cell (i := 3) rfl)
    go_wp2_with fail
    refine wp_region_M o_emendatelaw38_InsertionValues_3 (by kernel_rfl) (by kernel_rfl) (by intro c a d v w h; cases d <;> exact h) ?_; unfold o_emendatelaw38_InsertionValues_3
    refine wpF_o rfl rfl (fun K hK => ?_)
    go_simp
    go_at_call 10
    refine (awake_any _).mono ?_
    rintro r w2 ⟨rfl, hb⟩
    have f2 : Fut w1 w2 := (Fut.refl w1).drew.trans hb
    refine hK _ _ (.inr hb) ?_
    clear hK K hb
    iterate 5 (refine wpF_h rfl rfl (fun K hK => ?_); go_simp; refine hK _ _ ?_; clear hK K)
    refine wpF_o rfl rfl (fun K hK => ?_)
    go_simp
    go_at_call 12
    refine (HV1.out _ (HF.out.trans (HF1.out.trans f2))).mono ?_
    rintro r w3 ⟨hval, hb⟩
    have f3 : Fut w1 w3 := f2.trans hb
    have HVA := Lib.hid hval
    rcases hval with ⟨_, rfl⟩ | ⟨_, M, V, vb, rfl, rfl, hsol, hrow, _⟩
    · refine hK _ _ (.inr hb) ?_
      clear hK K hb
      refine wpF_o rfl rfl (fun K hK => ?_)
      go_simp
      go_at_call 13
      refine (HV2.out _ (HF.out.trans (HF1.out.trans f3))).mono ?_
      rintro r w4 ⟨hval2, hb⟩
      have f4 : Fut w1 w4 := f3.trans hb
      rcases hval2 with ⟨_, rfl⟩ | ⟨h9, _⟩
      · refine hK _ _ (.inr hb) ?_
        clear hK K hb
        refine wpF_o rfl rfl (fun K hK => ?_)
        go_simp
        go_at_call 11
        refine (samev_any none none 0 0 0 0 [] [] w4 rfl rfl (by decide) (by decide) RdS.nil RdS.nil).mono ?_
        rintro r w5 ⟨rfl, hb⟩
        have f5 : Fut w1 w5 := f4.trans hb
        refine hK _ _ (.inr hb) ?_
        clear hK K hb
        rw [decide_eq_true rfl]
        iterate 2 (refine wpF_h rfl rfl (fun K hK => ?_); go_simp; refine hK _ _ ?_; clear hK K)
        refine wpF_nil ?_
        go_wp2_with fail
        go_ret
        exact ⟨rfl, HF.out.trans (HF1.out.trans f5)⟩
      · rcases HVA.out with ⟨h8, _⟩ | ⟨_, _, _, _, _, h8, _⟩
        · rw [h8] at h9; cases h9
        · cases h8
    · refine hK _ _ (.inr hb) ?_
      clear hK K hb
      refine wpF_o rfl rfl (fun K hK => ?_)
      go_simp
      go_at_call 13
      refine (HV2.out _ (HF.out.trans (HF1.out.trans f3))).mono ?_
      rintro r w4 ⟨hval2, hb⟩
      have f4 : Fut w1 w4 := f3.trans hb
      have f34 : Fut w3 w4 := hb
      rcases hval2 with ⟨h9, _⟩ | ⟨_, M', V', vb', hM, rfl, hsol', hrow', _⟩
      · rcases HVA.out with ⟨_, h8⟩ | ⟨h8, _⟩
        · cases h8
        · rw [h8] at h9; cases h9
      · obtain rfl : M = M' := by omega
        obtain rfl := hsol.unique hsol'
        have hM60 : M ≤ 60 := by have := (smallN_parts HS.out).2.1; omega
        refine hK _ _ (.inr hb) ?_
        clear hK K hb
        have HSV := Lib.hid (samev_any (some ⟨vb, 0, none⟩) (some ⟨vb', 0, none⟩) M M M M _ _ w4 (by simp) (by simp) (by unfold maxLen; omega) (by unfold maxLen; omega) ((hrow.fut f34).rd) hrow'.rd)
        rw [decide_eq_true rfl] at HSV
        clear hsol hsol' hrow hrow' hM
        refine wpF_o rfl rfl (fun K hK => ?_)
        go_simp
        go_at_call 11
        refine HSV.out.mono ?_
        rintro r w5 ⟨rfl, hb⟩
        have f5 : Fut w1 w5 := f4.trans hb
        refine hK _ _ (.inr hb) ?_
        clear hK K hb
        iterate 2 (refine wpF_h rfl rfl (fun K hK => ?_); go_simp; refine hK _ _ ?_; clear hK K)
        refine wpF_nil ?_
        go_wp2_with fail
        go_ret
        exact ⟨rfl, HF.out.trans (HF1.out.trans f5)⟩
theorem par_one {T N st : Int} {rs : List NR} {ins : List Int} {V W : Nat → VV} {head : Int} {x y : DI} {e f : Int} (h : ParR T N st rs ins V head x e) (k : ParR T N st rs ins W head y f) : f = e ∧ toDT x = toDT y := by
  rcases h with ⟨h1, h2, h3⟩ | ⟨h1, h2, h3, h4⟩ | ⟨h1, h2, h3, h4⟩ <;> rcases k with ⟨k1, k2, k3⟩ | ⟨k1, k2, k3, k4⟩ | ⟨k1, k2, k3, k4⟩ <;>
    first
    | (rw [h1] at k1; cases k1; done)
    | exact absurd k2 h2
    | exact absurd h2 k2
    | (subst h2 h3 k2 k3; exact ⟨rfl, rfl⟩)
    | (subst h3 h4 k3 k4; exact ⟨rfl, rfl⟩)
    | skip
  obtain rfl := h3.unique k3
  rcases h4 with ⟨g1, g2, g3⟩ | ⟨g1, g2, g3, g4⟩ | ⟨g1, g2, g3, g4⟩ <;> rcases k4 with ⟨l1, l2, l3⟩ | ⟨l1, l2, l3, l4⟩ | ⟨l1, l2, l3, l4⟩ <;>
    first
    | (exfalso; omega)
    | (subst g2 g3 l2 l3; exact ⟨rfl, rfl⟩)
    | (subst g3 g4 l3 l4; exact ⟨rfl, rfl⟩)
    | (subst g3 l3; exact ⟨rfl, g4.unique l4⟩)
set_option maxHeartbeats 6400000 in
theorem law_iparse (T N st : Int) (A : Option Addr) (n c : Nat) (rs : List NR) (B : Option Addr) (m d : Nat) (ins : List Int) (head : Int) (w : World) (hl : rs.length = n) (hn : n ≤ maxLen) (hR : RdN w A rs) (hil : ins.length = m) (hm : m ≤ maxLen) (hI : Rd1 w B (.int .i64 ·) ins) :
    Calls Try.prog 4 #[nmv T N st A n c, .slice B m d, .int .i64 head] w fun e w' => e = .returned (.bool true) ∧ Below w.heap.size w w' := by
  have HL := Lib.hid hl
  have HN := Lib.hid hn
  have HR := Lib.hid hR
  have HIL := Lib.hid hil
  have HM := Lib.hid hm
  have HI := Lib.hid hI
  have HSM := Lib.hid (fun w' => smallN_any T N st A n c B m d w' hn hm)
  clear hl hn hR hil hm hI
  obtain ⟨wb, hwb⟩ : ∃ wb, wb = w.alloc (.cells #[.int .i64 T, .int .i64 N, .int .i64 st, .slice A n c] 24) := ⟨_, rfl⟩
  have HF := Lib.hid (show Fut w wb from by rw [hwb]; exact (Fut.refl w).alloc _)
  have HB := Lib.hid (show Blk wb w.heap.size 24 #[.int .i64 T, .int .i64 N, .int .i64 st, .slice A n c] from by rw [hwb]; exact heap_new' _ _ _ rfl)
  go_enter Try.func4, Try.ntmps4
  go_wp2_with fail
  rw [← hwb]
  clear hwb
  refine (HSM.out _).mono ?_
  rintro r w1 ⟨rfl, hb⟩
  have HF1 := Lib.hid (show Fut wb w1 from hb)
  clear hb
  obtain ⟨sm, hsm⟩ : ∃ sm, smallN N n m = sm := ⟨_, rfl⟩
  have HS := Lib.hid hsm
  rw [hsm]
  clear hsm
  cases sm with
  | false =>
    go_wp2_with fail
    refine (awake_any _).mono ?_
    rintro r w2 ⟨rfl, hb⟩
    have HF2 := Lib.hid (HF1.out.trans (show Fut w1 w2 from hb))
    clear hb
    go_wp2_with fail
    go_ret
    exact ⟨rfl, HF.out.trans HF2.out⟩
  | true =>
    have HP1 := Lib.hid (fun w' (hf : Fut w w') => ipar_any T N st A n c rs B m d ins head w' HL.out HN.out (RdS.fut HR.out hf) HIL.out HM.out (HI.out.fut hf))
    have HP2 := Lib.hid (fun w' (hf : Fut w w') => rpar_any T N st A n c rs B m d ins head w' HL.out HN.out (RdS.fut HR.out hf) HIL.out HM.out (HI.out.fut hf))
    have q0 := (HB.out.fut HF1.out).cell (i := 0) rfl
    have q1 := (HB.out.fut HF1.out).cell (i := 1) rfl
    have q2 := (HB.out.fut HF1.out).cell (i := 2) rfl
    have q3 := (HB.out.fut HF1.out).cell (i := 3) rfl
    go_wp2_with fail
    refine (HP1.out _ (HF.out.trans HF1.out)).mono ?_
    rintro r w2 ⟨⟨⟨xe, xA, xc, xk⟩, e, V, rfl, hrd, hpr⟩, hb⟩
    simp only [dv, DI.e, DI.A, DI.c, DI.k]
    obtain ⟨xn, hxn⟩ : ∃ xn, xk.length = xn := ⟨_, rfl⟩
    rw [hxn]
    have HXN := Lib.hid hxn
    have HPR := Lib.hid hpr
    have f2 := (Fut.refl w2).alloc (.cells #[.int .i64 xe, .slice xA xn xc] 33)
    have HF2 := Lib.hid (HF1.out.trans (show Fut w1 (w2.alloc (.cells #[.int .i64 xe, .slice xA xn xc] 33)) from Fut.trans hb f2))
    have HRD := Lib.hid (hrd.rd.fut f2)
    have HBX := Lib.hid (show Blk (w2.alloc (.cells #[.int .i64 xe, .slice xA xn xc] 33)) w2.heap.size 33 #[.int .i64 xe, .slice xA xn xc] from heap_new' _ _ _ rfl)
    clear hb hrd hpr hxn f2 q0 q1 q2 q3
    have q0 := (HB.out.fut HF2.out).cell (i := 0) rfl
    have q1 := (HB.out.fut HF2.out).cell (i := 1) rfl
    have q2 := (HB.out.fut HF2.out).cell (i := 2) rfl
    have q3 := (HB.out.fut HF2.out).cell (i := 3) rfl
    go_wp2_with fail
    generalize w2.alloc (.cells #[.int .i64 xe, .slice xA xn xc] 33) = w3 at *
    generalize w2.heap.size = xb at *
    refine (HP2.out _ (HF.out.trans HF2.out)).mono ?_
    rintro r w4 ⟨⟨⟨ye, yA, yc, yk⟩, f, W, rfl, hrd, hpr⟩, hb⟩
    obtain ⟨rfl, hxy⟩ := par_one HPR.out hpr
    simp only [dv, DI.e, DI.A, DI.c, DI.k]
    obtain ⟨yn, hyn⟩ : ∃ yn, yk.length = yn := ⟨_, rfl⟩
    rw [hyn]
    have HYN := Lib.hid hyn
    have HXY := Lib.hid hxy
    have f4 : Fut w3 w4 := hb
    have f5 := (Fut.refl w4).alloc (.cells #[.int .i64 ye, .slice yA yn yc] 33)
    have HF5 := Lib.hid (HF2.out.trans (f4.trans f5))
    have HX5 := Lib.hid ((HRD.out.fut f4).fut f5)
    have HY5 := Lib.hid (hrd.rd.fut f5)
    have HBX5 := Lib.hid ((HBX.out.fut f4).fut f5)
    have HBY := Lib.hid (show Blk (w4.alloc (.cells #[.int .i64 ye, .slice yA yn yc] 33)) w4.heap.size 33 #[.int .i64 ye, .slice yA yn yc] from heap_new' _ _ _ rfl)
    clear hb hrd hpr hyn hxy f4 f5 q0 q1 q2 q3
    go_wp2_with fail
    generalize w4.alloc (.cells #[.int .i64 ye, .slice yA yn yc] 33) = w5 at *
    generalize w4.heap.size = yb at *
    refine (awake_any _).mono ?_
    rintro r w6 ⟨rfl, hb⟩
    have f6 : Fut w5 w6 := hb
    have HF6 := Lib.hid (HF5.out.trans f6)
    have x0 := (HBX5.out.fut f6).cell (i := 0) rfl
    have x1 := (HBX5.out.fut f6).cell (i := 1) rfl
    have y0 := (HBY.out.fut f6).cell (i := 0) rfl
    have y1 := (HBY.out.fut f6).cell (i := 1) rfl
    have HE := Lib.hid (same_any (.node xe xA xc xk) (.node ye yA yc yk) w6 (HX5.out.fut f6) (HY5.out.fut f6))
    rw [HXY.out, (eqD_iff _ _).2 rfl] at HE
    simp only [dv, DI.e, DI.A, DI.c, DI.k, HXN.out, HYN.out] at HE
    clear hb f6
    go_wp2_with fail
    refine HE.out.mono ?_
    rintro r w7 ⟨rfl, hb⟩
    have HF7 := Lib.hid (HF6.out.trans (show Fut w6 w7 from hb))
    clear hb x0 x1 y0 y1
    go_wp2_with fail
    go_ret
    exact ⟨rfl, HF.out.trans HF7.out⟩
end Go.Proofs.Ytleapckcihcpaaa
