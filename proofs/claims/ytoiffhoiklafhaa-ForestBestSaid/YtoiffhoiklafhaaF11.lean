/-
  The reference's number of least derivations, walked.
-/
import Derived.Test.YtoiffhoiklafhaaF11p
import Derived.Test.YtoiffhoiklafhaaBJ
import Derived.Test.YtoiffhoiklafhaaBK
namespace Go.Proofs.Ytoiffhoiklafhaa
open Go.RowKit Go.Deep PK
attribute [local go_sem] Oper.lit Oper.litS fut_fut fut_drew World.cell?_alloc_some
attribute [local go_sem] fut_base_drew World.frozen?_setCell
theorem rmul_any (a b : Int) (w : World) (ha : 0 ≤ a) (ha1 : a ≤ 1099511627776) (hb : 0 ≤ b) (hb1 : b ≤ 1099511627776) :
    Calls Try.prog 38 #[.int .i64 a, .int .i64 b] w fun e w' => e = .returned (.int .i64 (mulF a b)) ∧ Below w.heap.size w w' := by
  by_cases ha0 : a = 0
  · subst ha0
    have HM := Lib.hid (show mulF 0 b = 0 from by unfold mulF; simp)
    go_enter Try.func38, Try.ntmps38
    go_wp2_with fail
    go_ret
    exact ⟨by rw [HM.out]; rfl, Fut.refl w⟩
  · obtain ⟨x1, x2, x3⟩ := cmpF_no ha0
    by_cases hb0 : b = 0
    · subst hb0
      have HM := Lib.hid (show mulF a 0 = 0 from by unfold mulF; simp)
      go_enter Try.func38, Try.ntmps38
      go_wp2_with fail
      go_ret
      exact ⟨by rw [HM.out]; rfl, Fut.refl w⟩
    · obtain ⟨y1, y2, y3⟩ := cmpF_no hb0
      have hbp : 0 < b := by omega
      by_cases hq : 1099511627776 / b < a
      · have h1 : 1099511627776 < (1099511627776 / b + 1) * b := Int.lt_ediv_add_one_mul_self _ hbp
        have h2 : (1099511627776 / b + 1) * b ≤ a * b := Int.mul_le_mul_of_nonneg_right (by omega) hb
        have HM := Lib.hid (show mulF a b = 1099511627776 from by unfold mulF; rw [if_neg (by omega)])
        clear h1 h2
        go_enter Try.func38, Try.ntmps38
        go_wp2_with fail
        go_ret
        exact ⟨by rw [HM.out]; rfl, Fut.refl w⟩
      · have h1 : 1099511627776 / b * b ≤ 1099511627776 := Int.ediv_mul_le _ hb0
        have h2 : a * b ≤ 1099511627776 / b * b := Int.mul_le_mul_of_nonneg_right (by omega) hb
        have h3 : 0 ≤ a * b := Int.mul_nonneg ha hb
        have hw2 : wrap64 (a * b) = a * b := IntWalk.wrap64_in _ ⟨by omega, by omega⟩
        have h5 : ¬ 1099511627776 < a * b := by omega
        have HM := Lib.hid (show mulF a b = a * b from by unfold mulF; split <;> omega)
        clear h1 h2 h3
        go_enter Try.func38, Try.ntmps38
        go_wp2_with fail
        go_ret
        exact ⟨by rw [HM.out]; rfl, Fut.refl w⟩
/-- the next node, as the program holds it -/
def nxv : Option Nat → Value
  | none => .int .i64 (-1)
  | some q => .int .i64 (q : Int)
set_option maxHeartbeats 25600000 in
set_option maxRecDepth 4000 in
theorem rCount_any (N : Nat) (A : Option Addr) (n c : Nat) (es : List EI) (r : Int) (w : World) (V : Nat → VV) (hS : Sol (EEs es) V) (hs : ∀ i, (V i).s < INF) (hl : es.length = n) (hn : n ≤ 1000) (hvd : validB N es = true) (htl : ∀ e ∈ es, e.t.length ≤ 4) (hR : RdE w A es) :
    Calls Try.prog 19 #[hv N A n c, .int .i64 r] w fun x w' => x = .returned (.int .i64 (cntR N V es r)) ∧ Below w.heap.size w w' := by
  obtain ⟨v1, v2, v3⟩ := validB_parts hvd
  have hN2 : N ≤ 1048576 := by omega
  have HVE := Lib.hid v3
  have HL := Lib.hid hl
  have HTL := Lib.hid htl
  have HSO := Lib.hid hS
  have HSZ := Lib.hid hs
  have HSV := Lib.hid (fun w' (hf : Fut w w') => rsolve_any N A n c es w' hl (by omega) hvd (fun e he => by have := htl e he; omega) (hR.fut hf))
  have HR := Lib.hid hR
  have hmk := run_make_row' (P := Try.prog) 64 4 (.bool false) 1 Try.underlying64 info_bool rfl .i64 .i64 N (by omega) (by omega)
  have hmk2 := run_make_row' (P := Try.prog) 27 3 (.int .i64 0) 8 Try.underlying27 info_int rfl .i64 .i64 N (by omega) (by omega)
  clear v1 v2 v3 hl hS hs hR hvd htl
  obtain ⟨wb, hwb⟩ : ∃ wb, wb = w.alloc (.cells #[.int .i64 N, .slice A n c] 24) := ⟨_, rfl⟩
  have HF := Lib.hid (show Fut w wb from by rw [hwb]; exact (Fut.refl w).alloc _)
  have HB := Lib.hid (show Blk wb w.heap.size 24 #[.int .i64 N, .slice A n c] from by rw [hwb]; exact heap_new' _ _ _ rfl)
  go_enter Try.func19, Try.ntmps19
  have q0 := HB.out.cell (i := 0) rfl
  have q1 := HB.out.cell (i := 1) rfl
  have hr3 : (0 ≤ r ∧ r < N) ∨ r < 0 ∨ (0 ≤ r ∧ (N : Int) ≤ r) := by omega
  rcases hr3 with ⟨hr0, hr1⟩ | hr0 | ⟨hr0, hr1⟩
  · obtain ⟨rt, rfl⟩ : ∃ rt : Nat, r = rt := ⟨r.toNat, by omega⟩
    have hrt : rt < N := by omega
    have HCR := Lib.hid (show cntR N V es (rt : Int) = cnt V es rt from by unfold cntR; rw [if_pos ⟨hr0, hr1⟩, Int.toNat_natCast])
    rw [hwb] at q0 q1
    go_wp2_with fail
    rw [← hwb]
    rw [← hwb] at q0 q1
    clear hwb hr0 hr1
    refine (HSV.out _ HF.out).mono ?_
    rintro x w1 ⟨⟨V', vb, eb0, rfl, hsol, hrow, _, hvb, _⟩, hb⟩
    obtain rfl := HSO.out.unique hsol
    have HF1 := Lib.hid (show Fut wb w1 from hb)
    have HRV := Lib.hid hrow
    have HR1 := Lib.hid (HR.out.fut (HF.out.trans HF1.out))
    have q0 := HF1.out.cell q0
    have p0 := ((Fut.refl w1).alloc (.cells (madeCells #[.int .i64 0] N) 3)).cell q0
    have p1 := (((Fut.refl w1).alloc (.cells (madeCells #[.int .i64 0] N) 3)).alloc (.cells (madeCells #[.bool false] N) 4)).cell q0
    clear hb hsol hrow HSV hvb q1
    go_wp2_with fail
    obtain ⟨cb, hcb'⟩ : ∃ cb, cb = w1.heap.size := ⟨_, rfl⟩
    obtain ⟨db, hdb'⟩ : ∃ db, db = cb + 1 := ⟨_, rfl⟩
    have hcb : w1.heap.size ≤ cb := by omega
    have hdc : db ≠ cb := by omega
    obtain ⟨w2, hw2⟩ : ∃ w2, w2 = (w1.alloc (.cells (madeCells #[.int .i64 0] N) 3)).alloc (.cells (madeCells #[.bool false] N) 4) := ⟨_, rfl⟩
    have HFO := Lib.hid (show Fut w1 w2 from by rw [hw2]; exact ((Fut.refl w1).alloc _).alloc _)
    have HRC := Lib.hid (show RowI w2 cb N (fun _ => 0) from by
      rw [hw2, hcb']
      exact RowI.fut (show RowI _ _ N (fun _ => 0) from World.rowIs_made w1 (.int .i64 0) N 3) ((Fut.refl _).alloc _))
    have HRD := Lib.hid (show RowB w2 db N (fun _ => false) from by
      rw [hw2, hdb', hcb']
      have := World.rowIs_made (w1.alloc (.cells (madeCells #[.int .i64 0] N) 3)) (.bool false) N 4
      rw [World.size_alloc] at this
      exact this)
    simp only [← hcb', ← hdb', ← hw2]
    have hdb : w1.heap.size ≤ db := by omega
    clear hw2 hcb' hdb' hmk hmk2 p0 p1 q0
    go_loopw [36] (fun i wr => ∃ (k : Nat) (D : Nat → Bool) (C : Nat → Int), k ≤ N ∧ i = .int .i64 k ∧ Hid (CI V es N k D C) ∧ Hid (RowB wr db N D) ∧ Hid (RowI wr cb N C) ∧ Hid (Fut w1 wr)) (fun i _ => N - (intOf i).toNat)
    case atStart => exact ⟨0, _, _, Nat.zero_le _, rfl, Lib.hid (CI.start V es N), HRD, HRC, HFO⟩
    case round =>
      clear HRD HRC HFO
      obtain ⟨k, D, C, hk, rfl, HCI, HRD, HRC, HFO⟩ := hrel
      by_cases hkN : k < N
      · go_wp2_with fail
        obtain ⟨wk, rfl⟩ : ∃ x, x = wr := ⟨_, rfl⟩
        go_loopw [9, 10] (fun nx i wr => ∃ (j : Nat) (x : Option Nat), j ≤ N ∧ i = .int .i64 j ∧ nx = nxv x ∧ Hid (NX V D j x) ∧ Hid (Fut wk wr)) (fun _ i _ => N - (intOf i).toNat)
        case atStart => exact ⟨0, none, Nat.zero_le _, rfl, rfl, Lib.hid (fun u hu => by omega), Lib.hid (Fut.refl _)⟩
        case round =>
          obtain ⟨j, x, hj, rfl, rfl, HNX, HFK⟩ := hrel
          have q0 := (HB.out.fut (HF1.out.trans (HFO.out.trans HFK.out))).cell (i := 0) rfl
          by_cases hlt : j < N
          · have hcd := World.rowIs.cell (RowB.fut HRD.out HFK.out) hlt
            obtain ⟨dj, hdj⟩ : ∃ dj, D j = dj := ⟨_, rfl⟩
            have HDJ := Lib.hid hdj
            simp only [hdj] at hcd
            clear hdj
            have g0 := cell_fut hcd
            cases dj with
            | true =>
              go_wp2_with fail
              clear q0 hcd
              refine wp_region_M o_emendateref32_Count_12 (by kernel_rfl) (by kernel_rfl) (by intro c a d v w h; cases d <;> exact h) ?_; unfold o_emendateref32_Count_12
              iterate 6 (refine wpF_h rfl rfl (fun K hK => ?_); go_simp; refine hK _ _ ?_; clear hK K)
              iterate 11 (refine wpF_hs2 rfl rfl (fun K hK => ?_); go_simp; refine hK _ _ ?_; clear hK K)
              (refine wpF_os2 rfl rfl (fun K hK => ?_); go_simp; refine hK _ _ ?_; clear hK K)
              (refine wpF_hs2 rfl rfl (fun K hK => ?_); go_simp; refine hK _ _ ?_; clear hK K)
              (refine wpF_h rfl rfl (fun K hK => ?_); go_simp; refine hK _ _ ?_; clear hK K)
              refine wpF_nil ?_
              go_wp2_with fail
              exact ⟨⟨j + 1, x, by omega, by go_num, rfl, Lib.hid (HNX.out.skip HDJ.out), Lib.hid HFK.out.drew⟩, by simp [intOf]; omega⟩
            | false =>
              cases x with
              | none =>
                rw [show nxv none = .int .i64 (-1) from rfl]
                go_wp2_with fail
                clear q0 hcd
                refine wp_region_M o_emendateref32_Count_12 (by kernel_rfl) (by kernel_rfl) (by intro c a d v w h; cases d <;> exact h) ?_; unfold o_emendateref32_Count_12
                iterate 9 (refine wpF_h rfl rfl (fun K hK => ?_); go_simp; refine hK _ _ ?_; clear hK K)
                iterate 8 (refine wpF_hs2 rfl rfl (fun K hK => ?_); go_simp; refine hK _ _ ?_; clear hK K)
                (refine wpF_os2 rfl rfl (fun K hK => ?_); go_simp; refine hK _ _ ?_; clear hK K)
                iterate 2 (refine wpF_h rfl rfl (fun K hK => ?_); go_simp; refine hK _ _ ?_; clear hK K)
                refine wpF_nil ?_
                go_wp2_with fail
                exact ⟨⟨j + 1, some j, by omega, by go_num, rfl, Lib.hid (HNX.out.first HDJ.out), Lib.hid HFK.out.drew⟩, by simp [intOf]; omega⟩
              | some q =>
                have hq := HNX.out.1
                have hqN : q < N := by omega
                have t0 := cell_fut ((HRV.out.fut (HFO.out.trans HFK.out)).c hlt)
                have t1 := cell_fut ((HRV.out.fut (HFO.out.trans HFK.out)).s hlt)
                have t2 := cell_fut ((HRV.out.fut (HFO.out.trans HFK.out)).c hqN)
                have t3 := cell_fut ((HRV.out.fut (HFO.out.trans HFK.out)).s hqN)
                have hq0 : ¬ (q : Int) < 0 := by omega
                rw [show nxv (some q) = .int .i64 (q : Int) from rfl]
                obtain ⟨lb, hlb⟩ : ∃ lb, ltV (V j) (V q) = lb := ⟨_, rfl⟩
                have HLB := Lib.hid hlb
                have HLE := Lib.hid (fun w' => rless_any (V j) (V q) w')
                rw [hlb] at HLE
                clear hlb
                go_wp2_with fail
                clear q0 hcd
                refine wp_region_M o_emendateref32_Count_12 (by kernel_rfl) (by kernel_rfl) (by intro c a d v w h; cases d <;> exact h) ?_; unfold o_emendateref32_Count_12
                iterate 17 (refine wpF_h rfl rfl (fun K hK => ?_); go_simp; refine hK _ _ ?_; clear hK K)
                refine wpF_o rfl rfl (fun K hK => ?_)
                go_simp
                go_at_call 37
                refine (HLE.out _).mono ?_
                rintro r w9 ⟨rfl, hb9⟩
                have HF9 := Lib.hid (HFK.out.trans (show Fut wr w9 from (Fut.refl wr).drew.trans hb9))
                refine hK _ _ (.inr hb9) ?_
                clear hK K hb9
                iterate 2 (refine wpF_h rfl rfl (fun K hK => ?_); go_simp; refine hK _ _ ?_; clear hK K)
                refine wpF_nil ?_
                clear t0 t1 t2 t3 g0
                cases lb with
                | true =>
                  go_wp2_with fail
                  · exact ⟨⟨j + 1, some j, by omega, by go_num, rfl, Lib.hid (HNX.out.take HDJ.out HLB.out), HF9⟩, by simp [intOf]; omega⟩
                  · rename_i h8
                    cases h8.2
                | false =>
                  go_wp2_with fail
                  all_goals first
                    | exact ⟨⟨j + 1, some q, by omega, by go_num, rfl, Lib.hid (HNX.out.keep HLB.out), HF9⟩, by simp [intOf]; omega⟩
                    | (exfalso; rename_i h8; rcases h8 with h8 | h8 <;> first | omega | cases h8)
                    | (exfalso; rename_i h8; omega)
          · have hjN : j = N := by omega
            obtain ⟨q, rfl⟩ := (show NX V D N x from hjN ▸ HNX.out).some_of HCI.out hkN
            have HNQ := Lib.hid (show NX V D N (some q) from hjN ▸ HNX.out)
            have hqN : q < N := HNQ.out.1
            have HRD2 := Lib.hid (RowB.fut HRD.out HFK.out)
            have HRC2 := Lib.hid (HRC.out.fut HFK.out)
            have HFO2 := Lib.hid (HFO.out.trans HFK.out)
            have g1 := World.rowIs.cell HRD2.out hqN
            have g2 := World.rowIs.frozen HRD2.out q
            simp only [nxv]
            clear hjN HNX
            go_wp2_with fail
            obtain ⟨wp, hwp⟩ : ∃ wp, wp = wr.setCell ⟨db, q, none⟩ (.bool true) := ⟨_, rfl⟩
            have HRDp := Lib.hid (show RowB wp db N (upd D q true) from by rw [hwp]; exact HRD2.out.set q true)
            have HRCp := Lib.hid (show RowI wp cb N (upd C q (cntJ V es q 0)) from by
              rw [hwp]
              refine (show RowI _ cb N C from World.rowIs.setOther HRC2.out (a := ⟨db, q, none⟩) (by simp only; omega) _).congr' (fun i _ => ?_)
              by_cases e : i = q
              · subst e; rw [PK.upd_same, HCI.out.un i hqN HNQ.out.2.1]; rfl
              · rw [PK.upd_other _ _ _ _ e])
            have HFOp := Lib.hid (show Fut w1 wp from by rw [hwp]; exact HFO2.out.setCell (p := ⟨db, q, none⟩) (by simp only; omega) _)
            rw [← hwp]
            clear hwp g1 g2 HRD2 HRC2 HFO2 HFK
            go_loopw [11] (fun i wr => ∃ j : Nat, j ≤ n ∧ i = .int .i64 j ∧ Hid (RowI wr cb N (upd C q (cntJ V es q j))) ∧ Hid (RowB wr db N (upd D q true)) ∧ Hid (Fut w1 wr)) (fun i _ => n - (intOf i).toNat)
            case atStart => exact ⟨0, Nat.zero_le _, rfl, HRCp, HRDp, HFOp⟩
            case round =>
              clear HRCp HRDp HFOp HRD HRC HFO
              obtain ⟨j, hj, rfl, HRC, HRD, HFO⟩ := hrel
              have q1 := (HB.out.fut (HF1.out.trans HFO.out)).cell (i := 1) rfl
              by_cases hlt : j < n
              · obtain ⟨x, hx⟩ := get_lt HL.out (show j < n by omega)
                have hxm := List.mem_of_getElem? hx
                obtain ⟨x1, x2, x3, x4, x5⟩ := okE_parts (HVE.out x hxm)
                obtain ⟨b2, o2, rfl, hc⟩ := (HR1.out.fut HFO.out).1 j x hx
                obtain ⟨ht, htm⟩ := HR1.out.2 x hxm
                have htl := HTL.out x hxm
                obtain ⟨xh, xt, xc, xl0, xl1, xA, xk⟩ := x
                simp only at x1 x2 x3 x4 x5 htl ht htm
                obtain ⟨h9, rfl⟩ : ∃ h : Nat, xh = h := ⟨xh.toNat, by omega⟩
                have hh9 : h9 < N := by omega
                have c0 := hc 0 _ (by decide) rfl
                have c1 := hc 1 _ (by decide) rfl
                have c2 := hc 2 _ (by decide) rfl
                have c3 := hc 3 _ (by decide) rfl
                have c4 := hc 4 _ (by decide) rfl
                simp only [Nat.add_zero] at c0
                have HTI := Lib.hid (fun w' (hf : Fut w1 w') => rtight_any vb N V ⟨(h9 : Int), xt, xc, xl0, xl1, xA, xk⟩ w' (HRV.out.fut hf) (by omega) HSO.out.ok ⟨x1, x2⟩ ⟨x3, x4⟩ x5 (by simp only; omega) (ht.fut hf))
                obtain ⟨tl, htl'⟩ : ∃ tl, xt.length = tl := ⟨_, rfl⟩
                simp only [htl'] at HTI
                rw [htl'] at c1 htl htm
                have HTN := Lib.hid htl'
                have htl63 : tl ≤ 9223372036854775807 := by omega
                have HX := Lib.hid hx
                have HXM := Lib.hid hxm
                have HT := Lib.hid ht
                have HX5 := Lib.hid x5
                have HXC := Lib.hid (show 0 ≤ xc ∧ xc ≤ INF from ⟨x3, x4⟩)
                clear hx hxm hc ht x5 x1 x2 x3 x4 htl'
                obtain ⟨wo, rfl⟩ : ∃ x, x = wr := ⟨_, rfl⟩
                by_cases hhq : h9 = q
                · subst hhq
                  go_wp2_with fail
                  have f0 : Fut wo (wo.alloc (.cells #[.int .i64 (h9 : Int), .slice xA tl xk, .int .i64 xc, .int .i64 xl0, .int .i64 xl1] 49)) := (Fut.refl wo).alloc _
                  have HEB := Lib.hid (show Blk (wo.alloc (.cells #[.int .i64 (h9 : Int), .slice xA tl xk, .int .i64 xc, .int .i64 xl0, .int .i64 xl1] 49)) wo.heap.size 49 #[.int .i64 (h9 : Int), .slice xA tl xk, .int .i64 xc, .int .i64 xl0, .int .i64 xl1] from heap_new' _ _ _ rfl)
                  have HRCI := Lib.hid (HRC.out.fut f0)
                  have HRDI := Lib.hid (RowB.fut HRD.out f0)
                  have HFOI := Lib.hid (HFO.out.trans f0)
                  obtain ⟨eb, heb⟩ : ∃ eb, eb = wo.heap.size := ⟨_, rfl⟩
                  rw [← heb] at HEB ⊢
                  have hec : eb ≠ cb := by have := World.rowIs.lt HRC.out; omega
                  generalize wo.alloc (.cells #[.int .i64 (h9 : Int), .slice xA tl xk, .int .i64 xc, .int .i64 xl0, .int .i64 xl1] 49) = wi at *
                  clear heb HRC HRD HFO f0 q1 c0 c1 c2 c3 c4
                  refine (HTI.out _ HFOI.out).mono ?_
                  rintro x w9 ⟨rfl, hb9⟩
                  have f9 : Fut wi w9 := hb9
                  have HRC9 := Lib.hid (HRCI.out.fut f9)
                  have HRD9 := Lib.hid (RowB.fut HRDI.out f9)
                  have HFO9 := Lib.hid (HFOI.out.trans f9)
                  have HEB9 := Lib.hid (HEB.out.fut f9)
                  clear hb9 f9 HRCI HRDI HFOI HEB
                  obtain ⟨tg, htg⟩ : ∃ tg, tgt V ⟨(h9 : Int), xt, xc, xl0, xl1, xA, xk⟩ = tg := ⟨_, rfl⟩
                  have HTG := Lib.hid htg
                  rw [htg]
                  clear htg
                  cases tg with
                  | false =>
                    go_wp2_with fail
                    refine ⟨⟨j + 1, by omega, by go_num, Lib.hid ?_, HRD9, HFO9⟩, by simp [intOf]; omega⟩
                    rw [cntJ_succ HX.out, if_neg (by rw [HTG.out, Bool.and_false]; exact Bool.false_ne_true)]
                    exact HRC9.out
                  | true =>
                    have HTS := Lib.hid (fun t (hm : t ∈ xt) => HCI.out.tail HSO.out.ok HSZ.out HNQ.out (e := ⟨(h9 : Int), xt, xc, xl0, xl1, xA, xk⟩) HXC.out (Int.toNat_natCast _) HTG.out hm (by have := HX5.out t hm; omega))
                    go_wp2_with fail
                    obtain ⟨wt, hwt⟩ : ∃ wt, wt = w9 := ⟨_, rfl⟩
                    go_loopw [13, 14] (fun p i wr => ∃ (k : Nat) (pr : Int), k ≤ tl ∧ i = .int .i64 k ∧ p = .int .i64 pr ∧ Hid (pr = cntK V es xt k) ∧ Hid (Fut w9 wr)) (fun _ i _ => tl - (intOf i).toNat)
                    case atStart => exact ⟨0, 1, Nat.zero_le _, rfl, rfl, Lib.hid rfl, Lib.hid (Fut.refl _)⟩
                    case round =>
                      obtain ⟨k, pr, hk, rfl, rfl, HPR, HFT⟩ := hrel
                      have y1 := (HEB9.out.fut HFT.out).cell (i := 1) rfl
                      have HPB := Lib.hid (show 0 ≤ pr ∧ pr ≤ 1099511627776 from by rw [HPR.out]; exact cntK_bd V es xt k)
                      by_cases hkt : k < tl
                      · obtain ⟨y, hy⟩ := get_lt HTN.out hkt
                        have hyv := HX5.out y (List.mem_of_getElem? hy)
                        obtain ⟨hne, hcv⟩ := HTS.out y (List.mem_of_getElem? hy)
                        have hks := cntK_succ (V := V) (es := es) hy
                        obtain ⟨t, rfl⟩ : ∃ t : Nat, y = t := Int.eq_ofNat_of_zero_le hyv.1
                        rw [Int.toNat_natCast] at hne hcv hks
                        have htN : t < N := by omega
                        obtain ⟨b4, o4, rfl, hcy⟩ := HT.out k _ hy
                        have u0 := (HFO9.out.trans HFT.out).cell hcy
                        have u1 := World.rowIs.cell (HRC9.out.fut HFT.out) htN
                        simp only [PK.upd_other _ _ _ _ hne, hcv] at u1
                        obtain ⟨ct, hct⟩ : ∃ ct, cnt V es t = ct := ⟨_, rfl⟩
                        have HCT := Lib.hid (show 0 ≤ ct ∧ ct ≤ 1099511627776 from by rw [← hct]; exact cnt_bd V es t)
                        rw [hct] at u1 hks
                        rw [← HPR.out] at hks
                        have HKS := Lib.hid hks
                        clear hy hyv hne hcv hks hcy hct
                        go_wp2_with fail
                        refine (rmul_any pr ct _ HPB.out.1 HPB.out.2 HCT.out.1 HCT.out.2).mono ?_
                        rintro x w8 ⟨rfl, hb8⟩
                        have HF8 := Lib.hid (HFT.out.trans (show Fut wr w8 from hb8))
                        clear hb8 u0 u1 y1
                        go_wp2_with fail
                        exact ⟨⟨k + 1, mulF pr ct, by omega, by go_num, rfl, Lib.hid HKS.out.symm, HF8⟩, by simp [intOf]; omega⟩
                      · have hkt2 : k = tl := by omega
                        have hpe : pr = cntE (cnt V es) ⟨(h9 : Int), xt, xc, xl0, xl1, xA, xk⟩ := by
                          rw [HPR.out]; unfold cntK cntE
                          rw [List.take_of_length_le (by rw [HTN.out]; omega)]
                        have HPE := Lib.hid hpe
                        have HRCA := Lib.hid (HRC9.out.fut HFT.out)
                        have HRDA := Lib.hid (RowB.fut HRD9.out HFT.out)
                        have HFOA := Lib.hid (HFO9.out.trans HFT.out)
                        have u1 := World.rowIs.cell HRCA.out hh9
                        have u2 := World.rowIs.frozen HRCA.out h9
                        simp only [PK.upd_same] at u1
                        obtain ⟨sj, hsj⟩ : ∃ sj, cntJ V es h9 j = sj := ⟨_, rfl⟩
                        have hsb := cntJ_bd V es h9 j
                        rw [hsj] at u1 hsb
                        have HSJ := Lib.hid hsj
                        have hpb := HPB.out
                        have hw1 : IntKind.i64.wrap (sj + pr) = sj + pr := by simp [IntKind.wrap, IntKind.signed, IntKind.bits]; omega
                        have hw2 : wrap64 (sj + pr) = sj + pr := IntWalk.wrap64_in _ ⟨by omega, by omega⟩
                        have HPL := Lib.hid (show (if (1099511627776 : Int) < sj + pr then (1099511627776 : Int) else sj + pr) = plusF sj pr from by
                          unfold plusF; split <;> split <;> omega)
                        clear hpe hsj hpb hsb hkt2
                        go_wp2_with fail
                        rw [HPL.out]
                        refine ⟨⟨j + 1, by omega, by go_num, Lib.hid ?_, Lib.hid (show RowB _ db N _ from World.rowIs.setOther HRDA.out (a := ⟨cb, h9, none⟩) (by simp only; omega) _), Lib.hid (HFOA.out.setCell (p := ⟨cb, h9, none⟩) hcb _)⟩, by simp [intOf]; omega⟩
                        rw [cntJ_succ HX.out, if_pos (by rw [HTG.out]; simp), HSJ.out, ← HPE.out]
                        refine (HRCA.out.set h9 (plusF sj pr)).congr' (fun i _ => ?_)
                        by_cases e : i = h9
                        · subst e; rw [PK.upd_same, PK.upd_same]
                        · rw [PK.upd_other _ _ _ _ e, PK.upd_other _ _ _ _ e, PK.upd_other _ _ _ _ e]
                · obtain ⟨k1, k2, k3⟩ := cmpF_no (show ¬ (h9 : Int) = (q : Int) by omega)
                  have HNE := Lib.hid (show ¬ (decide ((⟨(h9 : Int), xt, xc, xl0, xl1, xA, xk⟩ : EI).h.toNat = q) && tgt V ⟨(h9 : Int), xt, xc, xl0, xl1, xA, xk⟩) = true from by simp only [Int.toNat_natCast]; rw [decide_eq_false hhq]; simp)
                  clear hhq
                  go_wp2_with fail
                  refine ⟨⟨j + 1, by omega, by go_num, Lib.hid ?_, Lib.hid (RowB.fut HRD.out ((Fut.refl wo).alloc _)), Lib.hid (HFO.out.alloc _)⟩, by simp [intOf]; omega⟩
                  rw [cntJ_succ HX.out, if_neg HNE.out]
                  exact HRC.out.fut ((Fut.refl wo).alloc _)
              · have hjn : j = es.length := by rw [HL.out]; omega
                have HRN := Lib.hid (show RowI wr cb N (upd C q (cntJ V es q es.length)) from hjn ▸ HRC.out)
                have HCN := Lib.hid (HCI.out.step HSO.out.ok HSZ.out hqN HNQ.out)
                clear hjn
                go_wp2_with fail
                exact ⟨⟨k + 1, upd D q true, upd C q (cntJ V es q es.length), by omega, by go_num, HCN, HRD, HRN, HFO⟩, by simp [intOf]; omega⟩
      · have hnf : nF N D = 0 := by have := HCI.out.nf; omega
        have hv : C rt = cnt V es rt := HCI.out.dn rt hrt (nF_zero hnf rt hrt)
        have u1 := World.rowIs.cell HRC.out hrt
        simp only [hv] at u1
        clear hnf hv
        go_wp2_with fail
        go_ret
        exact ⟨by rw [HCR.out]; rfl, HF.out.trans (HF1.out.trans HFO.out)⟩
  · have HCR := Lib.hid (show cntR N V es r = 0 from by unfold cntR; rw [if_neg (by omega)])
    go_wp2_with fail
    rw [← hwb]
    go_ret
    exact ⟨by rw [HCR.out]; rfl, HF.out⟩
  · have HCR := Lib.hid (show cntR N V es r = 0 from by unfold cntR; rw [if_neg (by omega)])
    rw [hwb] at q0
    go_wp2_with fail
    rw [← hwb]
    go_ret
    exact ⟨by rw [HCR.out]; rfl, HF.out⟩
end Go.Proofs.Ytoiffhoiklafhaa
