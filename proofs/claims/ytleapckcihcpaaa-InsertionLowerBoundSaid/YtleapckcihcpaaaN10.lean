/-
  Parse, as the program and the reference have it.
-/
import Derived.Test.YtleapckcihcpaaaN9
import Derived.Laws.EntriesVeiled
namespace Go.Proofs.Ytleapckcihcpaaa
open Go.RowKit Go.Deep PK
attribute [local go_sem] Oper.lit Oper.litS fut_fut fut_drew World.cell?_alloc_some
/-- what Parse answers -/
def ParR (T N st : Int) (rs : List NR) (ins : List Int) (V : Nat → VV) (head : Int) (d : DI) (e : Int) : Prop :=
  ((validN T N st rs && pricesB T ins) = false ∧ e = 1 ∧ d = .node 0 none 0 []) ∨
  ((validN T N st rs && pricesB T ins) = true ∧ ¬ (0 ≤ head ∧ head < N) ∧ e = 2 ∧ d = .node 0 none 0 []) ∨
  ((validN T N st rs && pricesB T ins) = true ∧ (0 ≤ head ∧ head < N) ∧ Sol (grE ins rs) V ∧
    ((INF ≤ (V head.toNat).c ∧ e = 6 ∧ d = .node 0 none 0 []) ∨
     ((V head.toNat).c < INF ∧ 1000 < (V head.toNat).s ∧ e = 11 ∧ d = .node 0 none 0 []) ∨
     ((V head.toNat).c < INF ∧ (V head.toNat).s ≤ 1000 ∧ e = 0 ∧ Fol V (grE ins rs) head.toNat (toDT d))))
theorem ipar_res : Try.f14.results = #[.cell 6 33, .tmp 7] := by kernel_rfl
theorem rpar_res : Try.f15.results = #[.cell 6 33, .tmp 7] := by kernel_rfl
set_option maxHeartbeats 6400000 in
theorem ipar_any (T N st : Int) (A : Option Addr) (n c : Nat) (rs : List NR) (B : Option Addr) (m d : Nat) (ins : List Int) (head : Int) (w : World) (hl : rs.length = n) (hn : n ≤ maxLen) (hR : RdN w A rs) (hil : ins.length = m) (hm : m ≤ maxLen) (hI : Rd1 w B (.int .i64 ·) ins) :
    Calls Try.prog 14 #[nmv T N st A n c, .slice B m d, .int .i64 head] w fun r w' => (∃ x e V, r = .returned (.tuple #[dv x, .int .i64 e]) ∧ RdP (fun b => w.heap.size ≤ b) w' x ∧ ParR T N st rs ins V head x e) ∧ Below w.heap.size w w' := by
  have HL := Lib.hid hl
  have HN := Lib.hid hn
  have HR := Lib.hid hR
  have HIL := Lib.hid hil
  have HM := Lib.hid hm
  have HI := Lib.hid hI
  clear hl hn hR hil hm hI
  obtain ⟨V0, hV0⟩ : ∃ V0 : Nat → VV, V0 = fun _ => top := ⟨_, rfl⟩
  clear hV0
  obtain ⟨wb, hwb⟩ : ∃ wb, wb = (w.alloc (.cells #[.int .i64 T, .int .i64 N, .int .i64 st, .slice A n c] 24)).alloc (.cells #[.int .i64 0, .slice none 0 0] 33) := ⟨_, rfl⟩
  have HF := Lib.hid (show Fut w wb from by rw [hwb]; exact ((Fut.refl w).alloc _).alloc _)
  have HB := Lib.hid (show Blk wb w.heap.size 24 #[.int .i64 T, .int .i64 N, .int .i64 st, .slice A n c] from by rw [hwb]; (repeat (first | exact heap_new' _ _ _ (by first | rfl | (simp only [World.size_alloc])) | refine (blk_alloc_lt _ _ _ (by first | omega | (simp only [World.size_alloc]; omega))).trans ?_)))
  have HZ := Lib.hid (show Blk wb (w.heap.size + 1) 33 #[.int .i64 0, .slice none 0 0] from by rw [hwb]; (repeat (first | exact heap_new' _ _ _ (by first | rfl | (simp only [World.size_alloc])) | refine (blk_alloc_lt _ _ _ (by first | omega | (simp only [World.size_alloc]; omega))).trans ?_)))
  have q0 := HB.out.cell (i := 0) rfl
  have q1 := HB.out.cell (i := 1) rfl
  have q2 := HB.out.cell (i := 2) rfl
  have q3 := HB.out.cell (i := 3) rfl
  rw [hwb] at q0 q1 q2 q3
  go_enter Try.func14, Try.ntmps14
  go_wp2_with fail
  rw [← hwb]
  clear hwb q0 q1 q2 q3
  refine (values38_any T N st A n c rs B m d ins _ HL.out HN.out (RdS.fut HR.out HF.out) HIL.out HM.out (HI.out.fut HF.out)).mono ?_
  rintro r w1 ⟨hval, hb⟩
  have f1 : Fut wb w1 := hb
  have HF1 := Lib.hid (HF.out.trans f1)
  have HB1 := Lib.hid (HB.out.fut f1)
  have HZ1 := Lib.hid (HZ.out.fut f1)
  clear hb f1
  obtain ⟨v, hv9⟩ : ∃ v, (validN T N st rs && pricesB T ins) = v := ⟨_, rfl⟩
  have HVP := Lib.hid hv9
  have HIV := Lib.hid (fun w' (hf : Fut w w') => ivalid_any T N st A n c rs B m d ins w' HL.out HN.out (RdS.fut HR.out hf) HIL.out HM.out (HI.out.fut hf))
  rw [hv9] at HIV
  clear hv9
  cases v with
  | false =>
    rcases hval with ⟨_, rfl⟩ | ⟨h9, _⟩
    have q0 := (HB1.out).cell (i := 0) rfl
    have q1 := (HB1.out).cell (i := 1) rfl
    have q2 := (HB1.out).cell (i := 2) rfl
    have q3 := (HB1.out).cell (i := 3) rfl
    · go_wp2_with fail
      refine (HIV.out _ HF1.out).mono ?_
      rintro r w2 ⟨rfl, hb⟩
      have f2 : Fut w1 w2 := hb
      have HF2 := Lib.hid (HF1.out.trans f2)
      have HB2 := Lib.hid (HB1.out.fut f2)
      have HZ2 := Lib.hid (HZ1.out.fut f2)
      clear hb f2
      have g0 := HZ2.out.cell (i := 0) rfl
      have g1 := HZ2.out.cell (i := 1) rfl
      have g2 := HZ2.out.fz 0
      have g3 := HZ2.out.fz 1
      go_wp2_with fail
      refine bodyPost_ret (res_cell2 ipar_res _ _ (w.heap.size + 1) _ _ _ _ rfl ((HZ2.out.set 0 (.int .i64 0)).set 1 (.slice none 0 0)) Try.underlying33 rfl (by kernel_rfl)) rfl ?_
      exact ⟨⟨.node 0 none 0 [], 1, V0, rfl, rdP_leaf, .inl ⟨HVP.out, rfl, rfl⟩⟩, (HF2.out.setCell (p := ⟨w.heap.size + 1, 0, none⟩) (by simp only; omega) _).setCell (p := ⟨w.heap.size + 1, 1, none⟩) (by simp only; omega) _⟩
    · rw [HVP.out] at h9; cases h9
  | true =>
    rcases hval with ⟨h9, _⟩ | ⟨_, M, V, vb, rfl, rfl, hsol, hrow, hlo⟩
    · rw [HVP.out] at h9; cases h9
    have HV := Lib.hid (show validN T (M : Int) st rs = true from by
      have := HVP.out
      rw [Bool.and_eq_true] at this
      exact this.1)
    have HP := Lib.hid (show pricesB T ins = true from by
      have := HVP.out
      rw [Bool.and_eq_true] at this
      exact this.2)
    have hM1 : M ≤ 1000 := by have := (validN_parts HV.out).2.2.2.1; omega
    have HSO := Lib.hid hsol
    have HRW := Lib.hid hrow
    clear hsol hrow hlo
    have q0 := (HB1.out).cell (i := 0) rfl
    have q1 := (HB1.out).cell (i := 1) rfl
    have q2 := (HB1.out).cell (i := 2) rfl
    have q3 := (HB1.out).cell (i := 3) rfl
    go_wp2_with fail
    refine (HIV.out _ HF1.out).mono ?_
    rintro r w2 ⟨rfl, hb⟩
    have f2 : Fut w1 w2 := hb
    have HF2 := Lib.hid (HF1.out.trans f2)
    have HB2 := Lib.hid (HB1.out.fut f2)
    have HZ2 := Lib.hid (HZ1.out.fut f2)
    have HRW2 := Lib.hid (HRW.out.fut f2)
    clear hb f2 q0 q1 q2 q3
    have q0 := (HB2.out).cell (i := 0) rfl
    have q1 := (HB2.out).cell (i := 1) rfl
    have q2 := (HB2.out).cell (i := 2) rfl
    have q3 := (HB2.out).cell (i := 3) rfl
    by_cases hr0 : head < 0
    · clear V0
      obtain ⟨V0, rfl⟩ : ∃ V0, V0 = V := ⟨_, rfl⟩
      have g0 := HZ2.out.cell (i := 0) rfl
      have g1 := HZ2.out.cell (i := 1) rfl
      have g2 := HZ2.out.fz 0
      have g3 := HZ2.out.fz 1
      go_wp2_with fail
      refine bodyPost_ret (res_cell2 ipar_res _ _ (w.heap.size + 1) _ _ _ _ rfl ((HZ2.out.set 0 (.int .i64 0)).set 1 (.slice none 0 0)) Try.underlying33 rfl (by kernel_rfl)) rfl ?_
      exact ⟨⟨.node 0 none 0 [], 2, V0, rfl, rdP_leaf, .inr (.inl ⟨HVP.out, by omega, rfl, rfl⟩)⟩, (HF2.out.setCell (p := ⟨w.heap.size + 1, 0, none⟩) (by simp only; omega) _).setCell (p := ⟨w.heap.size + 1, 1, none⟩) (by simp only; omega) _⟩
    · by_cases hrN : (M : Int) ≤ head
      · clear V0
        obtain ⟨V0, rfl⟩ : ∃ V0, V0 = V := ⟨_, rfl⟩
        have g0 := HZ2.out.cell (i := 0) rfl
        have g1 := HZ2.out.cell (i := 1) rfl
        have g2 := HZ2.out.fz 0
        have g3 := HZ2.out.fz 1
        go_wp2_with fail
        refine bodyPost_ret (res_cell2 ipar_res _ _ (w.heap.size + 1) _ _ _ _ rfl ((HZ2.out.set 0 (.int .i64 0)).set 1 (.slice none 0 0)) Try.underlying33 rfl (by kernel_rfl)) rfl ?_
        exact ⟨⟨.node 0 none 0 [], 2, V0, rfl, rdP_leaf, .inr (.inl ⟨HVP.out, by omega, rfl, rfl⟩)⟩, (HF2.out.setCell (p := ⟨w.heap.size + 1, 0, none⟩) (by simp only; omega) _).setCell (p := ⟨w.heap.size + 1, 1, none⟩) (by simp only; omega) _⟩
      · obtain ⟨rt, rfl⟩ : ∃ rt : Nat, head = rt := ⟨head.toNat, by omega⟩
        have hrt : rt < M := by omega
        have cv := HRW2.out.c hrt
        have cs := HRW2.out.s hrt
        by_cases hinf : (1099511627776 : Int) ≤ (V rt).c
        · clear V0
          obtain ⟨V0, rfl⟩ : ∃ V0, V0 = V := ⟨_, rfl⟩
          have g0 := HZ2.out.cell (i := 0) rfl
          have g1 := HZ2.out.cell (i := 1) rfl
          have g2 := HZ2.out.fz 0
          have g3 := HZ2.out.fz 1
          go_wp2_with fail
          refine bodyPost_ret (res_cell2 ipar_res _ _ (w.heap.size + 1) _ _ _ _ rfl ((HZ2.out.set 0 (.int .i64 0)).set 1 (.slice none 0 0)) Try.underlying33 rfl (by kernel_rfl)) rfl ?_
          exact ⟨⟨.node 0 none 0 [], 6, V0, rfl, rdP_leaf, .inr (.inr ⟨HVP.out, by omega, HSO.out, .inl ⟨by rw [Int.toNat_natCast]; exact hinf, rfl, rfl⟩⟩)⟩, (HF2.out.setCell (p := ⟨w.heap.size + 1, 0, none⟩) (by simp only; omega) _).setCell (p := ⟨w.heap.size + 1, 1, none⟩) (by simp only; omega) _⟩
        · by_cases hsz : (1000 : Int) < (V rt).s
          · clear V0
            obtain ⟨V0, rfl⟩ : ∃ V0, V0 = V := ⟨_, rfl⟩
            have g0 := HZ2.out.cell (i := 0) rfl
            have g1 := HZ2.out.cell (i := 1) rfl
            have g2 := HZ2.out.fz 0
            have g3 := HZ2.out.fz 1
            go_wp2_with fail
            refine bodyPost_ret (res_cell2 ipar_res _ _ (w.heap.size + 1) _ _ _ _ rfl ((HZ2.out.set 0 (.int .i64 0)).set 1 (.slice none 0 0)) Try.underlying33 rfl (by kernel_rfl)) rfl ?_
            exact ⟨⟨.node 0 none 0 [], 11, V0, rfl, rdP_leaf, .inr (.inr ⟨HVP.out, by omega, HSO.out, .inr (.inl ⟨by rw [Int.toNat_natCast]; unfold INF; omega, by rw [Int.toNat_natCast]; exact hsz, rfl, rfl⟩)⟩)⟩, (HF2.out.setCell (p := ⟨w.heap.size + 1, 0, none⟩) (by simp only; omega) _).setCell (p := ⟨w.heap.size + 1, 1, none⟩) (by simp only; omega) _⟩
          · have HCI := Lib.hid (show (V rt).c < INF from by unfold INF; omega)
            have HSI := Lib.hid (show (V rt).s ≤ 1000 from by omega)
            have hn6 : n ≤ 1000000 := by have := (validN_parts HV.out).2.2.2.2.1; rw [HL.out] at this; omega
            go_wp2_with fail
            clear hinf hsz cv cs q0 q1 q2 q3
            refine (graph_any T M st A n c rs B m d ins _ HL.out (RdS.fut HR.out HF2.out) HIL.out (HI.out.fut HF2.out) HV.out HP.out).mono ?_
            rintro r w3 ⟨⟨XA, Xc, es, rfl, hgr, hre⟩, hb⟩
            have f3 : Fut w2 w3 := hb
            have HF3 := Lib.hid (HF2.out.trans f3)
            have HB3 := Lib.hid (HB2.out.fut f3)
            have HZ3 := Lib.hid (HZ2.out.fut f3)
            clear hb f3
            have HGR := Lib.hid hgr
            have HRE := Lib.hid hre
            clear hgr hre
            go_wp2_with fail
            refine (best_gen M XA n Xc es (HGR.out.1.trans HL.out) HN.out V rt (fun _ => ⟨hn6, HGR.out.tl, by rw [HGR.out.EEs]; exact HSO.out, fun _ => by rw [Int.toNat_natCast]; exact Int.lt_of_le_of_lt HSI.out (by unfold INF; decide)⟩) _ HRE.out).mono ?_
            rintro r w4 ⟨⟨x, e, rfl, hrd, hbr⟩, hb⟩
            have hfx : e = 0 ∧ Fol V (grE ins rs) rt (toDT x) := by
              rcases hbr with ⟨h, _⟩ | ⟨_, h, _⟩ | ⟨_, _, h, _⟩ | ⟨_, _, _, h0, h⟩
              · rw [HGR.out.valid HV.out HP.out] at h; cases h
              · exact absurd ⟨by omega, by omega⟩ h
              · rw [Int.toNat_natCast] at h; have := HCI.out; omega
              · rw [Int.toNat_natCast, HGR.out.EEs] at h; exact ⟨h0, h⟩
            obtain ⟨rfl, hfol⟩ := hfx
            have f4 : Fut w3 w4 := hb
            have HF4 := Lib.hid (HF3.out.trans f4)
            have HZ4 := Lib.hid (HZ3.out.fut f4)
            have HFO := Lib.hid hfol
            have HRD := Lib.hid hrd.rd
            clear hb f4 hrd hbr hfol
            obtain ⟨xe, xA, xc, xk⟩ := x
            simp only [dv, DI.e, DI.A, DI.c, DI.k]
            obtain ⟨xn, hxn⟩ : ∃ xn, xk.length = xn := ⟨_, rfl⟩
            rw [hxn]
            have HXN := Lib.hid hxn
            clear hxn
            go_wp2_with fail
            have HVD := Lib.hid ((HFO.out.good (grE_ok HV.out HP.out) HSO.out HCI.out).2)
            have HGL := Lib.hid (show ∀ e ∈ grE ins rs, e.t.length ≤ 1000000 from fun e he => by
              obtain ⟨r, _, rfl⟩ := List.mem_map.1 he
              have := tailsN_len r
              simp only [gE, List.length_map]
              omega)
            have HPB := Lib.hid (show ((w4.alloc (.cells #[.int .i64 xe, .slice xA xn xc] 68)).alloc (.cells #[(.func (.func 33) #[] #[.pointer (some ⟨w4.heap.size + 1, 0, none⟩)])] 71)).cell? ⟨w4.heap.size + 1, 0, none⟩ = some (.func (.func 33) #[] #[.pointer (some ⟨w4.heap.size + 1, 0, none⟩)]) from by (repeat (first | exact (cell_al_new _ _ _ _ _ _ (by first | rfl | (simp only [World.size_alloc]))).trans rfl | refine (cell_al_old _ _ _ (by first | omega | (simp only [World.size_alloc]; omega))).trans ?_)))
            have f5 : Fut w4 ((w4.alloc (.cells #[.int .i64 xe, .slice xA xn xc] 68)).alloc (.cells #[(.func (.func 33) #[] #[.pointer (some ⟨w4.heap.size + 1, 0, none⟩)])] 71)) := ((Fut.refl w4).alloc _).alloc _
            have HF5 := Lib.hid (HF4.out.trans f5)
            have HZ5 := Lib.hid (HZ4.out.fut f5)
            have HRD5 := Lib.hid (HRD.out.fut f5)
            have HC := Lib.hid (parse1_any (grE ins rs) HGL.out (w4.heap.size + 1) (.node xe xA xc xk) rt _ HVD.out HPB.out HRD5.out)
            clear f5
            simp only [dv, DI.e, DI.A, DI.c, DI.k, HXN.out] at HC
            generalize ((w4.alloc (.cells #[.int .i64 xe, .slice xA xn xc] 68)).alloc (.cells #[(.func (.func 33) #[] #[.pointer (some ⟨w4.heap.size + 1, 0, none⟩)])] 71)) = w5 at *
            refine HC.out.mono ?_
            rintro r w6 ⟨⟨⟨ye, yA, yc, yk⟩, rfl, hyx, hrd⟩, hb⟩
            have f6 : Fut w5 w6 := hb
            have HF6 := Lib.hid (HF5.out.trans f6)
            have HZ6 := Lib.hid (HZ5.out.fut f6)
            have HYX := Lib.hid hyx
            have HRD := Lib.hid hrd
            have HW5 := Lib.hid (show w.heap.size + 2 ≤ w5.heap.size from by
              have := HZ5.out.lt
              omega)
            clear hb f6 hyx hrd HC
            have g0 := HZ6.out.cell (i := 0) rfl
            have g1 := HZ6.out.cell (i := 1) rfl
            have g2 := HZ6.out.fz 0
            have g3 := HZ6.out.fz 1
            simp only [dv, DI.e, DI.A, DI.c, DI.k]
            obtain ⟨yn, hyn⟩ : ∃ yn, yk.length = yn := ⟨_, rfl⟩
            rw [hyn]
            have HYN := Lib.hid hyn
            clear hyn
            go_wp2_with fail
            refine bodyPost_ret (res_cell2 ipar_res _ _ (w.heap.size + 1) _ _ _ _ rfl ((HZ6.out.set 0 (.int .i64 ye)).set 1 (.slice yA yn yc)) Try.underlying33 rfl (by kernel_rfl)) rfl ?_
            refine ⟨⟨.node ye yA yc yk, 0, V, by simp only [dv, DI.e, DI.A, DI.c, DI.k, HYN.out]; rfl, HRD.out.keep (fun b hb _ => ⟨?_, ?_⟩), .inr (.inr ⟨HVP.out, by omega, HSO.out, .inr (.inr ⟨by rw [Int.toNat_natCast]; exact HCI.out, by rw [Int.toNat_natCast]; exact HSI.out, rfl, by rw [Int.toNat_natCast, HYX.out]; exact HFO.out⟩)⟩)⟩, (HF6.out.setCell (p := ⟨w.heap.size + 1, 0, none⟩) (by simp only; omega) _).setCell (p := ⟨w.heap.size + 1, 1, none⟩) (by simp only; omega) _⟩
            · have hb' : w5.heap.size ≤ b := hb
              have h9 := HW5.out
              exact (blk_setCell_other _ _ _ _ (by simp only; omega)).trans (blk_setCell_other _ _ _ _ (by simp only; omega))
            · have hb' : w5.heap.size ≤ b := hb
              have h9 := HW5.out
              show w.heap.size ≤ b
              omega
set_option maxHeartbeats 6400000 in
theorem rpar_any (T N st : Int) (A : Option Addr) (n c : Nat) (rs : List NR) (B : Option Addr) (m d : Nat) (ins : List Int) (head : Int) (w : World) (hl : rs.length = n) (hn : n ≤ maxLen) (hR : RdN w A rs) (hil : ins.length = m) (hm : m ≤ maxLen) (hI : Rd1 w B (.int .i64 ·) ins) :
    Calls Try.prog 15 #[nmv T N st A n c, .slice B m d, .int .i64 head] w fun r w' => (∃ x e V, r = .returned (.tuple #[dv x, .int .i64 e]) ∧ RdP (fun b => w.heap.size ≤ b) w' x ∧ ParR T N st rs ins V head x e) ∧ Below w.heap.size w w' := by
  have HL := Lib.hid hl
  have HN := Lib.hid hn
  have HR := Lib.hid hR
  have HIL := Lib.hid hil
  have HM := Lib.hid hm
  have HI := Lib.hid hI
  clear hl hn hR hil hm hI
  obtain ⟨V0, hV0⟩ : ∃ V0 : Nat → VV, V0 = fun _ => top := ⟨_, rfl⟩
  clear hV0
  obtain ⟨wb, hwb⟩ : ∃ wb, wb = (w.alloc (.cells #[.int .i64 T, .int .i64 N, .int .i64 st, .slice A n c] 24)).alloc (.cells #[.int .i64 0, .slice none 0 0] 33) := ⟨_, rfl⟩
  have HF := Lib.hid (show Fut w wb from by rw [hwb]; exact ((Fut.refl w).alloc _).alloc _)
  have HB := Lib.hid (show Blk wb w.heap.size 24 #[.int .i64 T, .int .i64 N, .int .i64 st, .slice A n c] from by rw [hwb]; (repeat (first | exact heap_new' _ _ _ (by first | rfl | (simp only [World.size_alloc])) | refine (blk_alloc_lt _ _ _ (by first | omega | (simp only [World.size_alloc]; omega))).trans ?_)))
  have HZ := Lib.hid (show Blk wb (w.heap.size + 1) 33 #[.int .i64 0, .slice none 0 0] from by rw [hwb]; (repeat (first | exact heap_new' _ _ _ (by first | rfl | (simp only [World.size_alloc])) | refine (blk_alloc_lt _ _ _ (by first | omega | (simp only [World.size_alloc]; omega))).trans ?_)))
  have q0 := HB.out.cell (i := 0) rfl
  have q1 := HB.out.cell (i := 1) rfl
  have q2 := HB.out.cell (i := 2) rfl
  have q3 := HB.out.cell (i := 3) rfl
  rw [hwb] at q0 q1 q2 q3
  go_enter Try.func15, Try.ntmps15
  go_wp2_with fail
  rw [← hwb]
  clear hwb q0 q1 q2 q3
  refine (rnvalid_any T N st A n c rs _ HL.out HN.out (RdS.fut HR.out HF.out)).mono ?_
  rintro r w1 ⟨rfl, hb⟩
  have f1 : Fut wb w1 := hb
  have HF1 := Lib.hid (HF.out.trans f1)
  have HB1 := Lib.hid (HB.out.fut f1)
  have HZ1 := Lib.hid (HZ.out.fut f1)
  clear hb f1
  obtain ⟨v, hv9⟩ : ∃ v, validN T N st rs = v := ⟨_, rfl⟩
  have HV := Lib.hid hv9
  rw [hv9]
  clear hv9
  cases v with
  | false =>
    have g0 := HZ1.out.cell (i := 0) rfl
    have g1 := HZ1.out.cell (i := 1) rfl
    have g2 := HZ1.out.fz 0
    have g3 := HZ1.out.fz 1
    go_wp2_with fail
    refine bodyPost_ret (res_cell2 rpar_res _ _ (w.heap.size + 1) _ _ _ _ rfl ((HZ1.out.set 0 (.int .i64 0)).set 1 (.slice none 0 0)) Try.underlying33 rfl (by kernel_rfl)) rfl ?_
    exact ⟨⟨.node 0 none 0 [], 1, V0, rfl, rdP_leaf, .inl ⟨by rw [HV.out]; rfl, rfl, rfl⟩⟩, (HF1.out.setCell (p := ⟨w.heap.size + 1, 0, none⟩) (by simp only; omega) _).setCell (p := ⟨w.heap.size + 1, 1, none⟩) (by simp only; omega) _⟩
  | true =>
    have q0 := (HB1.out).cell (i := 0) rfl
    have q1 := (HB1.out).cell (i := 1) rfl
    have q2 := (HB1.out).cell (i := 2) rfl
    have q3 := (HB1.out).cell (i := 3) rfl
    go_wp2_with fail
    refine (rprices_any T N st A n c B m d ins _ HIL.out HM.out (HI.out.fut HF1.out)).mono ?_
    rintro r w2 ⟨rfl, hb⟩
    have f2 : Fut w1 w2 := hb
    have HF2 := Lib.hid (HF1.out.trans f2)
    have HB2 := Lib.hid (HB1.out.fut f2)
    have HZ2 := Lib.hid (HZ1.out.fut f2)
    clear hb f2 q0 q1 q2 q3
    obtain ⟨v, hv9⟩ : ∃ v, pricesB T ins = v := ⟨_, rfl⟩
    have HP := Lib.hid hv9
    rw [hv9]
    clear hv9
    cases v with
    | false =>
      have g0 := HZ2.out.cell (i := 0) rfl
      have g1 := HZ2.out.cell (i := 1) rfl
      have g2 := HZ2.out.fz 0
      have g3 := HZ2.out.fz 1
      go_wp2_with fail
      refine bodyPost_ret (res_cell2 rpar_res _ _ (w.heap.size + 1) _ _ _ _ rfl ((HZ2.out.set 0 (.int .i64 0)).set 1 (.slice none 0 0)) Try.underlying33 rfl (by kernel_rfl)) rfl ?_
      exact ⟨⟨.node 0 none 0 [], 1, V0, rfl, rdP_leaf, .inl ⟨by rw [HV.out, HP.out]; rfl, rfl, rfl⟩⟩, (HF2.out.setCell (p := ⟨w.heap.size + 1, 0, none⟩) (by simp only; omega) _).setCell (p := ⟨w.heap.size + 1, 1, none⟩) (by simp only; omega) _⟩
    | true =>
      have HVP := Lib.hid (show (validN T N st rs && pricesB T ins) = true from by rw [HV.out, HP.out]; rfl)
      obtain ⟨M, rfl⟩ : ∃ M : Nat, N = M := ⟨N.toNat, by have := (validN_parts HV.out).2.2.1; omega⟩
      have hM1 : M ≤ 1000 := by have := (validN_parts HV.out).2.2.2.1; omega
      have hn6 : n ≤ 1000000 := by have := (validN_parts HV.out).2.2.2.2.1; rw [HL.out] at this; omega
      have q0 := (HB2.out).cell (i := 0) rfl
      have q1 := (HB2.out).cell (i := 1) rfl
      have q2 := (HB2.out).cell (i := 2) rfl
      have q3 := (HB2.out).cell (i := 3) rfl
      by_cases hr0 : head < 0
      · skip
        have g0 := HZ2.out.cell (i := 0) rfl
        have g1 := HZ2.out.cell (i := 1) rfl
        have g2 := HZ2.out.fz 0
        have g3 := HZ2.out.fz 1
        go_wp2_with fail
        refine bodyPost_ret (res_cell2 rpar_res _ _ (w.heap.size + 1) _ _ _ _ rfl ((HZ2.out.set 0 (.int .i64 0)).set 1 (.slice none 0 0)) Try.underlying33 rfl (by kernel_rfl)) rfl ?_
        exact ⟨⟨.node 0 none 0 [], 2, V0, rfl, rdP_leaf, .inr (.inl ⟨HVP.out, by omega, rfl, rfl⟩)⟩, (HF2.out.setCell (p := ⟨w.heap.size + 1, 0, none⟩) (by simp only; omega) _).setCell (p := ⟨w.heap.size + 1, 1, none⟩) (by simp only; omega) _⟩
      · by_cases hrN : (M : Int) ≤ head
        · skip
          have g0 := HZ2.out.cell (i := 0) rfl
          have g1 := HZ2.out.cell (i := 1) rfl
          have g2 := HZ2.out.fz 0
          have g3 := HZ2.out.fz 1
          go_wp2_with fail
          refine bodyPost_ret (res_cell2 rpar_res _ _ (w.heap.size + 1) _ _ _ _ rfl ((HZ2.out.set 0 (.int .i64 0)).set 1 (.slice none 0 0)) Try.underlying33 rfl (by kernel_rfl)) rfl ?_
          exact ⟨⟨.node 0 none 0 [], 2, V0, rfl, rdP_leaf, .inr (.inl ⟨HVP.out, by omega, rfl, rfl⟩)⟩, (HF2.out.setCell (p := ⟨w.heap.size + 1, 0, none⟩) (by simp only; omega) _).setCell (p := ⟨w.heap.size + 1, 1, none⟩) (by simp only; omega) _⟩
        · obtain ⟨rt, rfl⟩ : ∃ rt : Nat, head = rt := ⟨head.toNat, by omega⟩
          have hrt : rt < M := by omega
          go_wp2_with fail
          clear q0 q1 q2 q3
          refine (rgraph_any T M st A n c rs B m d ins _ HL.out (RdS.fut HR.out HF2.out) HIL.out (HI.out.fut HF2.out) HV.out HP.out).mono ?_
          rintro r w3 ⟨⟨XA, Xc, es, rfl, hgr, hre⟩, hb⟩
          have f3 : Fut w2 w3 := hb
          have HF3 := Lib.hid (HF2.out.trans f3)
          have HB3 := Lib.hid (HB2.out.fut f3)
          have HZ3 := Lib.hid (HZ2.out.fut f3)
          clear hb f3
          have HGR := Lib.hid hgr
          have HRE := Lib.hid hre
          clear hgr hre
          go_wp2_with fail
          refine (rsolve_any M XA n Xc es _ (HGR.out.1.trans HL.out) hn6 (HGR.out.valid HV.out HP.out) HGR.out.tl HRE.out).mono ?_
          rintro r w4 ⟨⟨V', vb, eb, rfl, hs', hv', hi', _, _⟩, hb⟩
          rw [HGR.out.EEs] at hs' hi'
          have HSO := Lib.hid hs'
          have f4 : Fut w3 w4 := hb
          have HF4 := Lib.hid (HF3.out.trans f4)
          have HZ4 := Lib.hid (HZ3.out.fut f4)
          have HB4 := Lib.hid (HB3.out.fut f4)
          have HRI := Lib.hid hi'
          have cv := hv'.c hrt
          have cs := hv'.s hrt
          clear hb f4 hs' hv' hi'
          by_cases hinf : (1099511627776 : Int) ≤ (V' rt).c
          · clear V0
            obtain ⟨V0, rfl⟩ : ∃ V0, V0 = V' := ⟨_, rfl⟩
            have g0 := HZ4.out.cell (i := 0) rfl
            have g1 := HZ4.out.cell (i := 1) rfl
            have g2 := HZ4.out.fz 0
            have g3 := HZ4.out.fz 1
            go_wp2_with fail
            refine bodyPost_ret (res_cell2 rpar_res _ _ (w.heap.size + 1) _ _ _ _ rfl ((HZ4.out.set 0 (.int .i64 0)).set 1 (.slice none 0 0)) Try.underlying33 rfl (by kernel_rfl)) rfl ?_
            exact ⟨⟨.node 0 none 0 [], 6, V0, rfl, rdP_leaf, .inr (.inr ⟨HVP.out, by omega, HSO.out, .inl ⟨by rw [Int.toNat_natCast]; exact hinf, rfl, rfl⟩⟩)⟩, (HF4.out.setCell (p := ⟨w.heap.size + 1, 0, none⟩) (by simp only; omega) _).setCell (p := ⟨w.heap.size + 1, 1, none⟩) (by simp only; omega) _⟩
          · by_cases hsz : (1000 : Int) < (V' rt).s
            · clear V0
              obtain ⟨V0, rfl⟩ : ∃ V0, V0 = V' := ⟨_, rfl⟩
              have g0 := HZ4.out.cell (i := 0) rfl
              have g1 := HZ4.out.cell (i := 1) rfl
              have g2 := HZ4.out.fz 0
              have g3 := HZ4.out.fz 1
              go_wp2_with fail
              refine bodyPost_ret (res_cell2 rpar_res _ _ (w.heap.size + 1) _ _ _ _ rfl ((HZ4.out.set 0 (.int .i64 0)).set 1 (.slice none 0 0)) Try.underlying33 rfl (by kernel_rfl)) rfl ?_
              exact ⟨⟨.node 0 none 0 [], 11, V0, rfl, rdP_leaf, .inr (.inr ⟨HVP.out, by omega, HSO.out, .inr (.inl ⟨by rw [Int.toNat_natCast]; unfold INF; omega, by rw [Int.toNat_natCast]; exact hsz, rfl, rfl⟩)⟩)⟩, (HF4.out.setCell (p := ⟨w.heap.size + 1, 0, none⟩) (by simp only; omega) _).setCell (p := ⟨w.heap.size + 1, 1, none⟩) (by simp only; omega) _⟩
            · have HCI := Lib.hid (show (V' rt).c < INF from by unfold INF; omega)
              have HSI := Lib.hid (show (V' rt).s ≤ 1000 from by omega)
              have HC := Lib.hid (build_any T M st A n c rs ins HL.out HV.out HP.out V' HSO.out eb ((V' rt).s.toNat + 1) rt w4 hrt HCI.out (Int.lt_of_le_of_lt HSI.out (by unfold INF; decide)) (by omega) (RdS.fut HR.out HF4.out) HRI.out)
              have q0 := (HB4.out).cell (i := 0) rfl
              have q1 := (HB4.out).cell (i := 1) rfl
              have q2 := (HB4.out).cell (i := 2) rfl
              have q3 := (HB4.out).cell (i := 3) rfl
              go_wp2_with fail
              clear hinf hsz cv cs q0 q1 q2 q3
              refine HC.out.mono ?_
              rintro r w5 ⟨⟨x, rfl, hfd, hrd⟩, hb⟩
              have f5 : Fut w4 w5 := hb
              have HF5 := Lib.hid (HF4.out.trans f5)
              have HZ5 := Lib.hid (HZ4.out.fut f5)
              have HFD := Lib.hid hfd
              have HRD := Lib.hid hrd
              have HW4 := Lib.hid (show w.heap.size + 2 ≤ w4.heap.size from by
                have := HZ4.out.lt
                omega)
              clear hb f5 hfd hrd HC
              have g0 := HZ5.out.cell (i := 0) rfl
              have g1 := HZ5.out.cell (i := 1) rfl
              have g2 := HZ5.out.fz 0
              have g3 := HZ5.out.fz 1
              obtain ⟨xe, xA, xc, xk⟩ := x
              simp only [dv, DI.e, DI.A, DI.c, DI.k]
              obtain ⟨xn, hxn⟩ : ∃ xn, xk.length = xn := ⟨_, rfl⟩
              rw [hxn]
              have HXN := Lib.hid hxn
              clear hxn
              go_wp2_with fail
              refine bodyPost_ret (res_cell2 rpar_res _ _ (w.heap.size + 1) _ _ _ _ rfl ((HZ5.out.set 0 (.int .i64 xe)).set 1 (.slice xA xn xc)) Try.underlying33 rfl (by kernel_rfl)) rfl ?_
              refine ⟨⟨.node xe xA xc xk, 0, V', by simp only [dv, DI.e, DI.A, DI.c, DI.k, HXN.out]; rfl, HRD.out.keep (fun b hb _ => ⟨?_, ?_⟩), .inr (.inr ⟨HVP.out, by omega, HSO.out, .inr (.inr ⟨by rw [Int.toNat_natCast]; exact HCI.out, by rw [Int.toNat_natCast]; exact HSI.out, rfl, by rw [Int.toNat_natCast]; exact HFD.out⟩)⟩)⟩, (HF5.out.setCell (p := ⟨w.heap.size + 1, 0, none⟩) (by simp only; omega) _).setCell (p := ⟨w.heap.size + 1, 1, none⟩) (by simp only; omega) _⟩
              · have hb' : w4.heap.size ≤ b := hb
                have h9 := HW4.out
                exact (blk_setCell_other _ _ _ _ (by simp only; omega)).trans (blk_setCell_other _ _ _ _ (by simp only; omega))
              · have hb' : w4.heap.size ≤ b := hb
                have h9 := HW4.out
                show w.heap.size ≤ b
                omega
end Go.Proofs.Ytleapckcihcpaaa
