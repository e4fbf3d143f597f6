/-
  The law of the equations of the insertion values, walked.
-/
import Derived.Test.YtleapckcihcpaaaN15
namespace Go.Proofs.Ytleapckcihcpaaa
open Go.RowKit Go.Deep PK
attribute [local go_sem] Oper.lit Oper.litS fut_fut fut_drew World.cell?_alloc_some
attribute [local go_sem] fut_base_drew World.frozen?_setCell
theorem RowB.fut {w w' : World} {b n : Nat} {T : Nat → Bool} (h : RowB w b n T) (hf : Fut w w') : RowB w' b n T := h.of_block (hf.block b h.lt)
/-- those that attain their value, of the first j, are marked -/
def AttT (es : List EE) (V : Nat → VV) (j : Nat) (T : Nat → Bool) : Prop := ∀ i e, i < j → es[i]? = some e → ev V e = V e.h → T e.h = true
theorem AttT.step {es : List EE} {V : Nat → VV} {j k : Nat} {T : Nat → Bool} {e : EE} {x : Bool} (h : AttT es V j T) (he : es[j]? = some e) (hk : k = e.h) (hx : ev V e = V e.h → x = true) (hT : T k = true → x = true) : AttT es V (j + 1) (upd T k x) := by
  intro i f hi hf hv
  unfold upd
  by_cases hij : i = j
  · subst hij
    rw [he] at hf
    injection hf with hf
    subst hf
    rw [if_pos hk.symm]
    exact hx hv
  · have h1 := h i f (by omega) hf hv
    by_cases hfk : f.h = k
    · rw [if_pos hfk]
      rw [hfk] at h1
      exact hT h1
    · rw [if_neg hfk]; exact h1
theorem AttT.all {es : List EE} {V : Nat → VV} {j : Nat} {T : Nat → Bool} (h : AttT es V j T) (hj : es.length = j) (hes : ∀ e ∈ es, PK.okE e) (hV : Sol es V) (v : Nat) (hT : T v = false) : (V v).c = 1099511627776 := by
  rcases hV.attained hes v with h1 | ⟨e, he, h1, h2⟩
  · rw [h1]; rfl
  · obtain ⟨i, hi⟩ := List.getElem?_of_mem he
    have hil := (List.getElem?_eq_some_iff.1 hi).1
    have := h i e (by omega) hi (by rw [h1]; exact h2)
    rw [h1, hT] at this
    cases this
set_option maxRecDepth 4000 in
set_option maxHeartbeats 6400000 in
theorem law_iequ (T N st : Int) (A : Option Addr) (n c : Nat) (rs : List NR) (B : Option Addr) (m d : Nat) (ins : List Int) (w : World) (hl : rs.length = n) (hn : n ≤ maxLen) (hR : RdN w A rs) (hil : ins.length = m) (hm : m ≤ maxLen) (hI : Rd1 w B (.int .i64 ·) ins)  :
    Calls Try.prog 8 #[nmv T N st A n c, .slice B m d] w fun e w' => e = .returned (.bool true) ∧ Below w.heap.size w w' := by
  have HL := Lib.hid hl
  have HN := Lib.hid hn
  have HR := Lib.hid hR
  have HIL := Lib.hid hil
  have HM := Lib.hid hm
  have HI := Lib.hid hI
  have HSM := Lib.hid (fun w' => smallN_any T N st A n c B m d w' hn hm)
  clear hl hn hR hil hm hI
  obtain ⟨wb, hwb⟩ : ∃ wb, wb = w.alloc (.cells #[.int .i64 T, .int .i64 N, .int .i64 st, .slice A n c] 24) := ⟨_, rfl⟩
  have HF := Lib.hid (show Fut w wb from by rw [hwb]; exact (Fut.refl w).alloc _)
  have HB := Lib.hid (show Blk wb w.heap.size 24 #[.int .i64 T, .int .i64 N, .int .i64 st, .slice A n c] from by rw [hwb]; exact heap_new' _ _ _ rfl)
  go_enter Try.func8, Try.ntmps8
  go_wp2_with fail
  rw [← hwb]
  clear hwb
  refine (HSM.out _).mono ?_
  rintro r w1 ⟨rfl, hb⟩
  have HF1 := Lib.hid (show Fut wb w1 from hb)
  clear hb
  obtain ⟨sm, hsm⟩ : ∃ sm, smallN N n m = sm := ⟨_, rfl⟩
  have HS := Lib.hid hsm
  rw [hsm]
  clear hsm
  cases sm with
  | false =>
    go_wp2_with fail
    refine (awake_any _).mono ?_
    rintro r w2 ⟨rfl, hb⟩
    have HF2 := Lib.hid (HF1.out.trans (show Fut w1 w2 from hb))
    clear hb
    go_wp2_with fail
    go_ret
    exact ⟨rfl, HF.out.trans HF2.out⟩
  | true =>
    have HMO := Lib.hid (fun w' (hf : Fut w w') => moderate_any T N st A n c rs B m d ins w' HL.out HN.out (RdS.fut HR.out hf) HIL.out HM.out (HI.out.fut hf))
    have HV1 := Lib.hid (fun w' (hf : Fut w w') => values38_any T N st A n c rs B m d ins w' HL.out HN.out (RdS.fut HR.out hf) HIL.out HM.out (HI.out.fut hf))
    have q0 := (HB.out.fut HF1.out).cell (i := 0) rfl
    have q1 := (HB.out.fut HF1.out).cell (i := 1) rfl
    have q2 := (HB.out.fut HF1.out).cell (i := 2) rfl
    have q3 := (HB.out.fut HF1.out).cell (i := 3) rfl
    go_wp2_with fail
    refine (HMO.out _ (HF.out.trans HF1.out)).mono ?_
    rintro r w2 ⟨⟨mo, rfl, hmo⟩, hb⟩
    have HF2 := Lib.hid (HF1.out.trans (show Fut w1 w2 from hb))
    have HMD := Lib.hid hmo
    clear hb hmo HMO q0 q1 q2 q3
    cases mo with
    | false =>
      go_wp2_with fail
      refine (awake_any _).mono ?_
      rintro r w3 ⟨rfl, hb⟩
      have HF3 := Lib.hid (HF2.out.trans (show Fut w2 w3 from hb))
      clear hb
      go_wp2_with fail
      go_ret
      exact ⟨rfl, HF.out.trans HF3.out⟩
    | true =>
      obtain ⟨hvp, V, hsol, hsz⟩ := HMD.out rfl
      have HVP := Lib.hid hvp
      have HSR := Lib.hid hsol
      have HBB := Lib.hid (show validN T N st rs = true ∧ pricesB T ins = true from by
        rw [Bool.and_eq_true] at hvp; exact hvp)
      have HNP := Lib.hid (validN_parts HBB.out.1)
      clear hvp hsol hsz HMD
      obtain ⟨M, rfl⟩ : ∃ M : Nat, N = M := ⟨N.toNat, by have := HNP.out.2.2.1; omega⟩
      have hM0 : 0 < M := by have := HNP.out.2.2.1; omega
      have hM1 : M ≤ 1000 := by have := HNP.out.2.2.2.1; omega
      have hmk := run_make_row' (P := Try.prog) 56 4 (.bool false) 1 Try.underlying56 info_bool rfl .i64 .i64 M (by omega) (by omega)
      have HGR := Lib.hid (fun w' (hf : Fut w w') => rgraph_any T M st A n c rs B m d ins w' HL.out (RdS.fut HR.out hf) HIL.out (HI.out.fut hf) HBB.out.1 HBB.out.2)
      have q0 := (HB.out.fut HF2.out).cell (i := 0) rfl
      have q1 := (HB.out.fut HF2.out).cell (i := 1) rfl
      have q2 := (HB.out.fut HF2.out).cell (i := 2) rfl
      have q3 := (HB.out.fut HF2.out).cell (i := 3) rfl
      go_wp2_with fail
      clear q0 q1 q2 q3
      refine (HV1.out _ (HF.out.trans HF2.out)).mono ?_
      rintro r w3 ⟨hval, hb⟩
      have HF3 := Lib.hid (HF2.out.trans (show Fut w2 w3 from hb))
      rcases hval with ⟨h9, _⟩ | ⟨_, M', V', vb, hM', rfl, hsol', hrow, _⟩
      · rw [HVP.out] at h9; cases h9
      obtain rfl : M = M' := by omega
      obtain rfl := HSR.out.unique hsol'
      have HRW := Lib.hid hrow
      clear hb hsol' hrow hM' HV1
      have q0 := (HB.out.fut HF3.out).cell (i := 0) rfl
      have q1 := (HB.out.fut HF3.out).cell (i := 1) rfl
      have q2 := (HB.out.fut HF3.out).cell (i := 2) rfl
      have q3 := (HB.out.fut HF3.out).cell (i := 3) rfl
      go_wp2_with fail
      clear q0 q1 q2 q3
      refine (HGR.out _ (HF.out.trans HF3.out)).mono ?_
      rintro r w4 ⟨⟨XA, Xc, es, rfl, hgr, hre⟩, hb⟩
      have f34 : Fut w3 w4 := hb
      have HF4 := Lib.hid (HF3.out.trans f34)
      have HRW4 := Lib.hid (HRW.out.fut f34)
      have HRE4 := Lib.hid hre
      have HEQ := Lib.hid hgr.EEs
      have HEL := Lib.hid (hgr.1.trans HL.out)
      have HVE := Lib.hid (validB_parts (hgr.valid HBB.out.1 HBB.out.2)).2.2
      have HES := Lib.hid (EEs_ok (hgr.valid HBB.out.1 HBB.out.2))
      have HTE := Lib.hid hgr.tl
      have HSO := Lib.hid (show Sol (EEs es) V from by rw [HEQ.out]; exact HSR.out)
      have hn6 : n ≤ 600 := by rw [← HL.out]; exact HNP.out.2.2.2.2.1
      clear hb hre hgr f34 HGR HRW HSR
      have q1 := (HB.out.fut HF4.out).cell (i := 1) rfl
      go_wp2_with fail
      obtain ⟨gb, hgb⟩ : ∃ gb, gb = w4.heap.size := ⟨_, rfl⟩
      rw [← hgb]
      obtain ⟨wq, hwq⟩ : ∃ wq, wq = w4.alloc (.cells #[.int .i64 M, .slice XA n Xc] 54) := ⟨_, rfl⟩
      have HFQ := Lib.hid (show Fut wb wq from by rw [hwq]; exact HF4.out.alloc _)
      have HBG := Lib.hid (show Blk wq gb 54 #[.int .i64 M, .slice XA n Xc] from by rw [hwq, hgb]; exact heap_new' _ _ _ rfl)
      have HRV := Lib.hid (show RowV wq vb M V from by rw [hwq]; exact HRW4.out.fut ((Fut.refl w4).alloc _))
      have HRE := Lib.hid (show RdE wq XA es from by rw [hwq]; exact HRE4.out.fut ((Fut.refl w4).alloc _))
      obtain ⟨ab, hab'⟩ : ∃ ab, ab = gb + 1 := ⟨_, rfl⟩
      have hsq : wq.heap.size = ab := by rw [hwq, World.size_alloc, ← hgb, hab']
      rw [← hwq]
      rw [← hab']
      have hab : wq.heap.size ≤ ab := by omega
      obtain ⟨w5, hw5⟩ : ∃ w5, w5 = wq.alloc (.cells (madeCells #[.bool false] M) 4) := ⟨_, rfl⟩
      have HIF := Lib.hid (show Fut wq w5 from by rw [hw5]; exact (Fut.refl wq).alloc _)
      have HTB := Lib.hid (show RowB w5 ab M (fun _ => false) from by rw [hw5, ← hsq]; exact World.rowIs_made wq (.bool false) M 4)
      rw [← hw5]
      clear hw5 hwq hab' hsq hgb q1 HRW4 HRE4 HF4 hmk
      go_loopw [8] (fun i wr => ∃ (j : Nat) (Tt : Nat → Bool), j ≤ n ∧ i = .int .i64 j ∧ Hid (Fut wq wr) ∧ Hid (RowB wr ab M Tt) ∧ Hid (AttT (EEs es) V j Tt)) (fun i _ => n - (intOf i).toNat)
      case atStart => exact ⟨0, _, Nat.zero_le _, rfl, HIF, HTB, Lib.hid (fun i e h => by omega)⟩
      case round =>
        clear HIF HTB
        obtain ⟨j, Tt, hj, rfl, HIF, HTB, HAT⟩ := hrel
        by_cases hlt : j < n
        · obtain ⟨x, hx⟩ := get_lt HEL.out (show j < n by omega)
          have hxm := List.mem_of_getElem? hx
          obtain ⟨x1, x2, x3, x4, x5⟩ := okE_parts (HVE.out x hxm)
          obtain ⟨b2, o2, rfl, hc⟩ := (HRE.out.fut HIF.out).1 j x hx
          obtain ⟨ht, _⟩ := (HRE.out.fut HIF.out).2 x hxm
          have htl := HTE.out x hxm
          obtain ⟨xh, xt, xc, xl0, xl1, xA, xk⟩ := x
          simp only at x1 x2 x3 x4 x5 htl ht
          obtain ⟨h9, rfl⟩ : ∃ h : Nat, xh = h := ⟨xh.toNat, by omega⟩
          have hh9 : h9 < M := by omega
          have c0 := hc 0 _ (by decide) rfl
          have c1 := hc 1 _ (by decide) rfl
          have c2 := hc 2 _ (by decide) rfl
          have c3 := hc 3 _ (by decide) rfl
          have c4 := hc 4 _ (by decide) rfl
          simp only [Nat.add_zero] at c0
          have g1 := (HBG.out.fut HIF.out).cell (i := 1) rfl
          have htl63 : xt.length ≤ 9223372036854775807 := by omega
          have HT := Lib.hid ht
          have HXC := Lib.hid (show 0 ≤ xc ∧ xc ≤ INF from ⟨x3, x4⟩)
          have HX5 := Lib.hid x5
          have HEX := Lib.hid (show (EEs es)[j]? = some (toEE ⟨(h9 : Int), xt, xc, xl0, xl1, xA, xk⟩) from by rw [List.getElem?_map, hx]; rfl)
          have HEM := Lib.hid (show toEE ⟨(h9 : Int), xt, xc, xl0, xl1, xA, xk⟩ ∈ EEs es from List.mem_map.2 ⟨_, hxm, rfl⟩)
          clear hx hxm hc ht x5 x1 x2 x3 x4
          obtain ⟨y, hy⟩ : ∃ y, y = ev V (toEE ⟨(h9 : Int), xt, xc, xl0, xl1, xA, xk⟩) := ⟨_, rfl⟩
          obtain ⟨yc, ys⟩ := y
          have HY := Lib.hid hy
          clear hy
          go_wp2_with fail
          obtain ⟨eb, heb⟩ : ∃ eb, eb = wr.heap.size := ⟨_, rfl⟩
          rw [← heb]
          obtain ⟨wx, hwx⟩ : ∃ wx, wx = wr.alloc (.cells #[.int .i64 (h9 : Int), .slice xA xt.length xk, .int .i64 xc, .int .i64 xl0, .int .i64 xl1] 59) := ⟨_, rfl⟩
          have y0 : ∀ dd os, (fut wx dd os).cell? ⟨eb, 0, none⟩ = some (.int .i64 (h9 : Int)) := cell_fut (by rw [hwx, heb]; (repeat (first | exact (cell_al_new _ _ _ _ _ _ (by first | rfl | (simp only [World.size_alloc]))).trans rfl | refine (cell_al_old _ _ _ (by first | omega | (simp only [World.size_alloc]; omega))).trans ?_)))
          have y1 : ∀ dd os, (fut wx dd os).cell? ⟨eb, 1, none⟩ = some (.slice xA xt.length xk) := cell_fut (by rw [hwx, heb]; (repeat (first | exact (cell_al_new _ _ _ _ _ _ (by first | rfl | (simp only [World.size_alloc]))).trans rfl | refine (cell_al_old _ _ _ (by first | omega | (simp only [World.size_alloc]; omega))).trans ?_)))
          have y2 : ∀ dd os, (fut wx dd os).cell? ⟨eb, 2, none⟩ = some (.int .i64 xc) := cell_fut (by rw [hwx, heb]; (repeat (first | exact (cell_al_new _ _ _ _ _ _ (by first | rfl | (simp only [World.size_alloc]))).trans rfl | refine (cell_al_old _ _ _ (by first | omega | (simp only [World.size_alloc]; omega))).trans ?_)))
          have y3 : ∀ dd os, (fut wx dd os).cell? ⟨eb, 3, none⟩ = some (.int .i64 xl0) := cell_fut (by rw [hwx, heb]; (repeat (first | exact (cell_al_new _ _ _ _ _ _ (by first | rfl | (simp only [World.size_alloc]))).trans rfl | refine (cell_al_old _ _ _ (by first | omega | (simp only [World.size_alloc]; omega))).trans ?_)))
          have y4 : ∀ dd os, (fut wx dd os).cell? ⟨eb, 4, none⟩ = some (.int .i64 xl1) := cell_fut (by rw [hwx, heb]; (repeat (first | exact (cell_al_new _ _ _ _ _ _ (by first | rfl | (simp only [World.size_alloc]))).trans rfl | refine (cell_al_old _ _ _ (by first | omega | (simp only [World.size_alloc]; omega))).trans ?_)))
          have HIX := Lib.hid (show Fut wq wx from by rw [hwx]; exact HIF.out.alloc _)
          have HBX := Lib.hid (show RowB wx ab M Tt from by rw [hwx]; exact HTB.out.fut ((Fut.refl wr).alloc _))
          have HTX := Lib.hid (show Rd1 wx xA (.int .i64 ·) xt from by rw [hwx]; exact HT.out.fut ((Fut.refl wr).alloc _))
          rw [← hwx]
          clear hwx heb HTB HT HIF
          have HTA := Lib.hid (fun w' (hf : Fut wx w') => rtails_any vb M V ⟨(h9 : Int), xt, xc, xl0, xl1, xA, xk⟩ w' (HRV.out.fut (HIX.out.trans hf)) (by omega) HX5.out (by simp only; omega) (HTX.out.fut hf))
          have HCM := Lib.hid (fun w' TA tc (hrd : RdS w' TA 2 encV ((xt.map Int.toNat).map V)) => rcombine_any xc TA xt.length tc ((xt.map Int.toNat).map V) w' (by rw [List.length_map, List.length_map]) (by unfold maxLen; omega) HXC.out (fun v hv => by
            obtain ⟨t, _, rfl⟩ := List.mem_map.1 hv
            exact HSO.out.ok t) hrd)
          refine wp_region_M o_emendatelaw38_InsertionEquations_12 (by kernel_rfl) (by kernel_rfl) (by intro c a d v w h; cases d <;> exact h) ?_; unfold o_emendatelaw38_InsertionEquations_12
          iterate 4 (refine wpF_h rfl rfl (fun K hK => ?_); go_simp; refine hK _ _ ?_; clear hK K)
          refine wpF_two rfl rfl (fun K hK => ?_) (fun K hK => ?_)
          · go_simp
            go_at_call 26
            refine (HTA.out _ ((Fut.refl wx).drew)).mono ?_
            rintro r wt ⟨⟨TA, tc, rfl, hrd⟩, hbt⟩
            have ht0 : Fut wx wt := ((Fut.refl wx).drew).trans hbt
            refine hK _ _ (.inr hbt) ?_
            clear hK K hbt
            refine wpF_two rfl rfl (fun K hK => ?_) (fun K hK => ?_)
            · go_simp
              go_at_call 25
              refine (HCM.out _ _ _ (hrd)).mono ?_
              rintro r wc ⟨hr, hbc⟩
              rw [show comb xc ((xt.map Int.toNat).map V) = ⟨yc, ys⟩ from HY.out.symm] at hr
              subst hr
              have hc0 : Fut wx wc := (ht0).trans hbc
              refine hK _ _ (.inr hbc) ?_
              clear hK K
              refine wpF_o rfl rfl (fun K hK => ?_)
              go_simp
              refine hK _ _ (.inr ((Fut.refl _).alloc _)) ?_
              clear hK K
              obtain ⟨q, hqq⟩ : ∃ q, q = wc.heap.size := ⟨_, rfl⟩
              rw [← hqq]
              have hq : Blk (wc.alloc (.cells #[.int .i64 0, .int .i64 0] 40)) q 40 #[.int .i64 0, .int .i64 0] := by rw [hqq]; exact Blk.new wc _ _
              have hfs : Fut wx (wc.alloc (.cells #[.int .i64 0, .int .i64 0] 40)) := hc0.alloc _
              have hql : wx.heap.size ≤ q := by rw [hqq]; exact hc0.size
              clear hqq hc0 hrd ht0 hbc
              have HQ := Lib.hid hq
              have HFS := Lib.hid hfs
              have HQL := Lib.hid hql
              clear hq hfs hql
              generalize wc.alloc (.cells #[.int .i64 0, .int .i64 0] 40) = ws at *
              refine wpF_o rfl rfl (fun K hK => ?_)
              have z0 := HQ.out.cell (i := 0) rfl
              have z1 := HQ.out.cell (i := 1) rfl
              have z2 := HQ.out.fz 0
              have z3 := HQ.out.fz 1
              go_simp
              refine hK _ _ (.inl (by kernel_rfl)) ?_
              clear hK K z0 z1 z2 z3
              have HQZ := Lib.hid (show Blk ((ws.setCell ⟨q, 0, none⟩ (.int .i64 yc)).setCell ⟨q, 1, none⟩ (.int .i64 ys)) q 40 #[.int .i64 yc, .int .i64 ys] from (HQ.out.set 0 _).set 1 _)
              have HFZ := Lib.hid (show Fut wx ((ws.setCell ⟨q, 0, none⟩ (.int .i64 yc)).setCell ⟨q, 1, none⟩ (.int .i64 ys)) from (HFS.out.setCell (p := ⟨q, 0, none⟩) HQL.out _).setCell (p := ⟨q, 1, none⟩) HQL.out _)
              generalize ((ws.setCell ⟨q, 0, none⟩ (.int .i64 yc)).setCell ⟨q, 1, none⟩ (.int .i64 ys)) = wz at *
              clear HQ HFS HQL
              refine wpF_nil ?_
              have HIZ := Lib.hid (HIX.out.trans HFZ.out)
              have HTZ := Lib.hid (RowB.fut HBX.out HFZ.out)
              clear HIX HBX
              have t0 := cell_fut (HQZ.out.cell (i := 0) rfl)
              have t1 := cell_fut (HQZ.out.cell (i := 1) rfl)
              have t2 := cell_fut (HFZ.out.cell (y0 0 #[]))
              have t3 := cell_fut ((HRV.out.fut HIZ.out).c hh9)
              have t4 := cell_fut ((HRV.out.fut HIZ.out).s hh9)
              obtain ⟨zc, hzc⟩ : ∃ z, z = (V h9).c := ⟨_, rfl⟩
              obtain ⟨zs, hzs⟩ : ∃ z, z = (V h9).s := ⟨_, rfl⟩
              rw [← hzc] at t3
              rw [← hzs] at t4
              have HZ := Lib.hid (show V h9 = ⟨zc, zs⟩ from by rw [hzc, hzs])
              clear hzc hzs
              have HLE := Lib.hid (fun w' => rless_any ⟨yc, ys⟩ ⟨zc, zs⟩ w')
              rw [show ltV ⟨yc, ys⟩ ⟨zc, zs⟩ = false from by rw [HY.out, ← HZ.out]; exact not_lt_of_leV (HSO.out.closed _ HEM.out)] at HLE
              go_wp2_with fail
              refine wp_region_M o_emendatelaw38_InsertionEquations_13 (by kernel_rfl) (by kernel_rfl) (by intro c a d v w h; cases d <;> exact h) ?_; unfold o_emendatelaw38_InsertionEquations_13
              iterate 6 (refine wpF_h rfl rfl (fun K hK => ?_); go_simp; refine hK _ _ ?_; clear hK K)
              refine wpF_o rfl rfl (fun K hK => ?_)
              go_simp
              go_at_call 23
              refine (HLE.out _).mono ?_
              rintro r w9 ⟨rfl, hb9⟩
              have HF9 := Lib.hid (show Fut wz w9 from (Fut.refl wz).drew.trans hb9)
              refine hK _ _ (.inr hb9) ?_
              clear hK K hb9
              refine wpF_nil ?_
              have HI9 := Lib.hid (HIZ.out.trans HF9.out)
              have HT9 := Lib.hid (HTZ.out.fut HF9.out)
              have t0 := cell_fut (HF9.out.cell (t0 0 #[]))
              have t1 := cell_fut (HF9.out.cell (t1 0 #[]))
              have t2 := cell_fut (HF9.out.cell (t2 0 #[]))
              have t3 := cell_fut (HF9.out.cell (t3 0 #[]))
              have t4 := cell_fut (HF9.out.cell (t4 0 #[]))
              clear y0 y1 y2 y3 y4 HIZ HTZ HLE HF9
              have g5 := World.rowIs.cell HT9.out hh9
              have g4 := World.rowIs.frozen HT9.out h9
              have g0 := cell_fut g5
              obtain ⟨tb, htb⟩ : ∃ tb, Tt h9 = tb := ⟨_, rfl⟩
              have HTT := Lib.hid htb
              simp only [htb] at g5 g0
              clear htb
              have HYZ := Lib.hid (show ev V (toEE ⟨(h9 : Int), xt, xc, xl0, xl1, xA, xk⟩) = V (toEE ⟨(h9 : Int), xt, xc, xl0, xl1, xA, xk⟩).h ↔ yc = zc ∧ ys = zs from by
                rw [← HY.out, show (toEE ⟨(h9 : Int), xt, xc, xl0, xl1, xA, xk⟩).h = h9 from by simp [toEE], HZ.out, VV.mk.injEq])
              clear HQZ HFZ
              go_wp2_with fail
              cases tb with
              | true =>
                refine wp_region_M o_emendatelaw38_InsertionEquations_15 (by kernel_rfl) (by kernel_rfl) (by intro c a d v w h; cases d <;> exact h) ?_; unfold o_emendatelaw38_InsertionEquations_15
                iterate 9 (refine wpF_h rfl rfl (fun K hK => ?_); go_simp; refine hK _ _ ?_; clear hK K)
                iterate 7 (refine wpF_hs2 rfl rfl (fun K hK => ?_); go_simp; refine hK _ _ ?_; clear hK K)
                iterate 2 (refine wpF_h rfl rfl (fun K hK => ?_); go_simp; refine hK _ _ ?_; clear hK K)
                refine wpF_o rfl rfl (fun K hK => ?_)
                go_simp
                refine hK _ _ (.inl (by kernel_rfl)) ?_
                clear hK K
                refine wpF_nil ?_
                have HTN := Lib.hid (show RowB ((w9.setCell ⟨ab, h9, none⟩ (.bool true)).drew) ab M (upd Tt h9 true) from HT9.out.set h9 true)
                have HFN := Lib.hid (show Fut wq ((w9.setCell ⟨ab, h9, none⟩ (.bool true)).drew) from (HI9.out.setCell (p := ⟨ab, h9, none⟩) hab _).drew)
                generalize ((w9.setCell ⟨ab, h9, none⟩ (.bool true)).drew) = wz9 at *
                clear t0 t1 t2 t3 t4 g0 g4 g5
                go_wp2_with fail
                exact ⟨⟨j + 1, upd Tt h9 true, by omega, by go_num, HFN, HTN, Lib.hid (HAT.out.step HEX.out (show h9 = (toEE ⟨(h9 : Int), xt, xc, xl0, xl1, xA, xk⟩).h from by simp [toEE]) (fun _ => rfl) (fun _ => rfl))⟩, by simp [intOf]; omega⟩
              | false =>
                have hd : Hid (yc = zc ∧ ys = zs) ∨ (Hid (¬ ys = zs) ∧ Hid (yc = zc)) ∨ Hid (¬ yc = zc) := by
                  by_cases h1 : yc = zc
                  · by_cases h2 : ys = zs
                    · exact .inl (Lib.hid ⟨h1, h2⟩)
                    · exact .inr (.inl ⟨Lib.hid h2, Lib.hid h1⟩)
                  · exact .inr (.inr (Lib.hid h1))
                rcases hd with hd | ⟨hd, hd2⟩ | hd
                · have k1 : (yc = zc) = True := eq_true hd.out.1
                  have k2 : (ys = zs) = True := eq_true hd.out.2
                  refine wp_region_M o_emendatelaw38_InsertionEquations_15 (by kernel_rfl) (by kernel_rfl) (by intro c a d v w h; cases d <;> exact h) ?_; unfold o_emendatelaw38_InsertionEquations_15
                  iterate 18 (refine wpF_h rfl rfl (fun K hK => ?_); go_simp; refine hK _ _ ?_; clear hK K)
                  refine wpF_o rfl rfl (fun K hK => ?_)
                  go_simp
                  refine hK _ _ (.inl (by kernel_rfl)) ?_
                  clear hK K
                  refine wpF_nil ?_
                  have HTN := Lib.hid (show RowB ((w9.setCell ⟨ab, h9, none⟩ (.bool true)).drew) ab M (upd Tt h9 true) from HT9.out.set h9 true)
                  have HFN := Lib.hid (show Fut wq ((w9.setCell ⟨ab, h9, none⟩ (.bool true)).drew) from (HI9.out.setCell (p := ⟨ab, h9, none⟩) hab _).drew)
                  generalize ((w9.setCell ⟨ab, h9, none⟩ (.bool true)).drew) = wz9 at *
                  clear t0 t1 t2 t3 t4 g0 g4 g5
                  go_wp2_with fail
                  exact ⟨⟨j + 1, upd Tt h9 true, by omega, by go_num, HFN, HTN, Lib.hid (HAT.out.step HEX.out (show h9 = (toEE ⟨(h9 : Int), xt, xc, xl0, xl1, xA, xk⟩).h from by simp [toEE]) (fun _ => rfl) (fun _ => rfl))⟩, by simp [intOf]; omega⟩
                · have k1 : (yc = zc) = True := eq_true hd2.out
                  have k2 : (ys = zs) = False := eq_false hd.out
                  refine wp_region_M o_emendatelaw38_InsertionEquations_15 (by kernel_rfl) (by kernel_rfl) (by intro c a d v w h; cases d <;> exact h) ?_; unfold o_emendatelaw38_InsertionEquations_15
                  iterate 18 (refine wpF_h rfl rfl (fun K hK => ?_); go_simp; refine hK _ _ ?_; clear hK K)
                  refine wpF_o rfl rfl (fun K hK => ?_)
                  go_simp
                  refine hK _ _ (.inl (by kernel_rfl)) ?_
                  clear hK K
                  refine wpF_nil ?_
                  have HTN := Lib.hid (show RowB ((w9.setCell ⟨ab, h9, none⟩ (.bool false)).drew) ab M (upd Tt h9 false) from HT9.out.set h9 false)
                  have HFN := Lib.hid (show Fut wq ((w9.setCell ⟨ab, h9, none⟩ (.bool false)).drew) from (HI9.out.setCell (p := ⟨ab, h9, none⟩) hab _).drew)
                  generalize ((w9.setCell ⟨ab, h9, none⟩ (.bool false)).drew) = wz9 at *
                  clear t0 t1 t2 t3 t4 g0 g4 g5
                  go_wp2_with fail
                  exact ⟨⟨j + 1, upd Tt h9 false, by omega, by go_num, HFN, HTN, Lib.hid (HAT.out.step HEX.out (show h9 = (toEE ⟨(h9 : Int), xt, xc, xl0, xl1, xA, xk⟩).h from by simp [toEE]) (fun h => absurd (HYZ.out.1 h).2 hd.out) (fun h => by rw [HTT.out] at h; exact h))⟩, by simp [intOf]; omega⟩
                · have k1 : (yc = zc) = False := eq_false hd.out
                  refine wp_region_M o_emendatelaw38_InsertionEquations_15 (by kernel_rfl) (by kernel_rfl) (by intro c a d v w h; cases d <;> exact h) ?_; unfold o_emendatelaw38_InsertionEquations_15
                  iterate 18 (refine wpF_h rfl rfl (fun K hK => ?_); go_simp; refine hK _ _ ?_; clear hK K)
                  refine wpF_o rfl rfl (fun K hK => ?_)
                  go_simp
                  refine hK _ _ (.inl (by kernel_rfl)) ?_
                  clear hK K
                  refine wpF_nil ?_
                  have HTN := Lib.hid (show RowB ((w9.setCell ⟨ab, h9, none⟩ (.bool false)).drew) ab M (upd Tt h9 false) from HT9.out.set h9 false)
                  have HFN := Lib.hid (show Fut wq ((w9.setCell ⟨ab, h9, none⟩ (.bool false)).drew) from (HI9.out.setCell (p := ⟨ab, h9, none⟩) hab _).drew)
                  generalize ((w9.setCell ⟨ab, h9, none⟩ (.bool false)).drew) = wz9 at *
                  clear t0 t1 t2 t3 t4 g0 g4 g5
                  go_wp2_with fail
                  exact ⟨⟨j + 1, upd Tt h9 false, by omega, by go_num, HFN, HTN, Lib.hid (HAT.out.step HEX.out (show h9 = (toEE ⟨(h9 : Int), xt, xc, xl0, xl1, xA, xk⟩).h from by simp [toEE]) (fun h => absurd (HYZ.out.1 h).1 hd.out) (fun h => by rw [HTT.out] at h; exact h))⟩, by simp [intOf]; omega⟩
            · go_simp
              refine hK _ _ (.inr ((Fut.refl _).alloc _)) ?_
              clear hK K
              obtain ⟨q, hqq⟩ : ∃ q, q = wt.heap.size := ⟨_, rfl⟩
              rw [← hqq]
              have hq0 : Blk (wt.alloc (.cells #[.int .i64 0, .int .i64 0] 40)) q 40 #[.int .i64 0, .int .i64 0] := by rw [hqq]; exact Blk.new wt _ _
              have hql : wx.heap.size ≤ q := by rw [hqq]; exact ht0.size
              clear hqq
              refine wpF_o rfl rfl (fun K hK => ?_)
              go_simp
              go_at_call 25
              refine (HCM.out _ _ _ (hrd.fut ((Fut.refl wt).alloc _))).mono ?_
              rintro r wc ⟨hr, hbc⟩
              rw [show comb xc ((xt.map Int.toNat).map V) = ⟨yc, ys⟩ from HY.out.symm] at hr
              subst hr
              have hc0 : Fut wx wc := (ht0.alloc _).trans hbc
              refine hK _ _ (.inr hbc) ?_
              clear hK K
              have hq : Blk wc q 40 #[.int .i64 0, .int .i64 0] := hq0.fut hbc
              have hfs : Fut wx wc := hc0
              clear hc0 hrd ht0 hbc hq0
              have HQ := Lib.hid hq
              have HFS := Lib.hid hfs
              have HQL := Lib.hid hql
              clear hq hfs hql
              generalize wc = ws at *
              refine wpF_o rfl rfl (fun K hK => ?_)
              have z0 := HQ.out.cell (i := 0) rfl
              have z1 := HQ.out.cell (i := 1) rfl
              have z2 := HQ.out.fz 0
              have z3 := HQ.out.fz 1
              go_simp
              refine hK _ _ (.inl (by kernel_rfl)) ?_
              clear hK K z0 z1 z2 z3
              have HQZ := Lib.hid (show Blk ((ws.setCell ⟨q, 0, none⟩ (.int .i64 yc)).setCell ⟨q, 1, none⟩ (.int .i64 ys)) q 40 #[.int .i64 yc, .int .i64 ys] from (HQ.out.set 0 _).set 1 _)
              have HFZ := Lib.hid (show Fut wx ((ws.setCell ⟨q, 0, none⟩ (.int .i64 yc)).setCell ⟨q, 1, none⟩ (.int .i64 ys)) from (HFS.out.setCell (p := ⟨q, 0, none⟩) HQL.out _).setCell (p := ⟨q, 1, none⟩) HQL.out _)
              generalize ((ws.setCell ⟨q, 0, none⟩ (.int .i64 yc)).setCell ⟨q, 1, none⟩ (.int .i64 ys)) = wz at *
              clear HQ HFS HQL
              refine wpF_nil ?_
              have HIZ := Lib.hid (HIX.out.trans HFZ.out)
              have HTZ := Lib.hid (RowB.fut HBX.out HFZ.out)
              clear HIX HBX
              have t0 := cell_fut (HQZ.out.cell (i := 0) rfl)
              have t1 := cell_fut (HQZ.out.cell (i := 1) rfl)
              have t2 := cell_fut (HFZ.out.cell (y0 0 #[]))
              have t3 := cell_fut ((HRV.out.fut HIZ.out).c hh9)
              have t4 := cell_fut ((HRV.out.fut HIZ.out).s hh9)
              obtain ⟨zc, hzc⟩ : ∃ z, z = (V h9).c := ⟨_, rfl⟩
              obtain ⟨zs, hzs⟩ : ∃ z, z = (V h9).s := ⟨_, rfl⟩
              rw [← hzc] at t3
              rw [← hzs] at t4
              have HZ := Lib.hid (show V h9 = ⟨zc, zs⟩ from by rw [hzc, hzs])
              clear hzc hzs
              have HLE := Lib.hid (fun w' => rless_any ⟨yc, ys⟩ ⟨zc, zs⟩ w')
              rw [show ltV ⟨yc, ys⟩ ⟨zc, zs⟩ = false from by rw [HY.out, ← HZ.out]; exact not_lt_of_leV (HSO.out.closed _ HEM.out)] at HLE
              go_wp2_with fail
              refine wp_region_M o_emendatelaw38_InsertionEquations_13 (by kernel_rfl) (by kernel_rfl) (by intro c a d v w h; cases d <;> exact h) ?_; unfold o_emendatelaw38_InsertionEquations_13
              iterate 6 (refine wpF_h rfl rfl (fun K hK => ?_); go_simp; refine hK _ _ ?_; clear hK K)
              refine wpF_o rfl rfl (fun K hK => ?_)
              go_simp
              go_at_call 23
              refine (HLE.out _).mono ?_
              rintro r w9 ⟨rfl, hb9⟩
              have HF9 := Lib.hid (show Fut wz w9 from (Fut.refl wz).drew.trans hb9)
              refine hK _ _ (.inr hb9) ?_
              clear hK K hb9
              refine wpF_nil ?_
              have HI9 := Lib.hid (HIZ.out.trans HF9.out)
              have HT9 := Lib.hid (HTZ.out.fut HF9.out)
              have t0 := cell_fut (HF9.out.cell (t0 0 #[]))
              have t1 := cell_fut (HF9.out.cell (t1 0 #[]))
              have t2 := cell_fut (HF9.out.cell (t2 0 #[]))
              have t3 := cell_fut (HF9.out.cell (t3 0 #[]))
              have t4 := cell_fut (HF9.out.cell (t4 0 #[]))
              clear y0 y1 y2 y3 y4 HIZ HTZ HLE HF9
              have g5 := World.rowIs.cell HT9.out hh9
              have g4 := World.rowIs.frozen HT9.out h9
              have g0 := cell_fut g5
              obtain ⟨tb, htb⟩ : ∃ tb, Tt h9 = tb := ⟨_, rfl⟩
              have HTT := Lib.hid htb
              simp only [htb] at g5 g0
              clear htb
              have HYZ := Lib.hid (show ev V (toEE ⟨(h9 : Int), xt, xc, xl0, xl1, xA, xk⟩) = V (toEE ⟨(h9 : Int), xt, xc, xl0, xl1, xA, xk⟩).h ↔ yc = zc ∧ ys = zs from by
                rw [← HY.out, show (toEE ⟨(h9 : Int), xt, xc, xl0, xl1, xA, xk⟩).h = h9 from by simp [toEE], HZ.out, VV.mk.injEq])
              clear HQZ HFZ
              go_wp2_with fail
              cases tb with
              | true =>
                refine wp_region_M o_emendatelaw38_InsertionEquations_15 (by kernel_rfl) (by kernel_rfl) (by intro c a d v w h; cases d <;> exact h) ?_; unfold o_emendatelaw38_InsertionEquations_15
                iterate 9 (refine wpF_h rfl rfl (fun K hK => ?_); go_simp; refine hK _ _ ?_; clear hK K)
                iterate 7 (refine wpF_hs2 rfl rfl (fun K hK => ?_); go_simp; refine hK _ _ ?_; clear hK K)
                iterate 2 (refine wpF_h rfl rfl (fun K hK => ?_); go_simp; refine hK _ _ ?_; clear hK K)
                refine wpF_o rfl rfl (fun K hK => ?_)
                go_simp
                refine hK _ _ (.inl (by kernel_rfl)) ?_
                clear hK K
                refine wpF_nil ?_
                have HTN := Lib.hid (show RowB ((w9.setCell ⟨ab, h9, none⟩ (.bool true)).drew) ab M (upd Tt h9 true) from HT9.out.set h9 true)
                have HFN := Lib.hid (show Fut wq ((w9.setCell ⟨ab, h9, none⟩ (.bool true)).drew) from (HI9.out.setCell (p := ⟨ab, h9, none⟩) hab _).drew)
                generalize ((w9.setCell ⟨ab, h9, none⟩ (.bool true)).drew) = wz9 at *
                clear t0 t1 t2 t3 t4 g0 g4 g5
                go_wp2_with fail
                exact ⟨⟨j + 1, upd Tt h9 true, by omega, by go_num, HFN, HTN, Lib.hid (HAT.out.step HEX.out (show h9 = (toEE ⟨(h9 : Int), xt, xc, xl0, xl1, xA, xk⟩).h from by simp [toEE]) (fun _ => rfl) (fun _ => rfl))⟩, by simp [intOf]; omega⟩
              | false =>
                have hd : Hid (yc = zc ∧ ys = zs) ∨ (Hid (¬ ys = zs) ∧ Hid (yc = zc)) ∨ Hid (¬ yc = zc) := by
                  by_cases h1 : yc = zc
                  · by_cases h2 : ys = zs
                    · exact .inl (Lib.hid ⟨h1, h2⟩)
                    · exact .inr (.inl ⟨Lib.hid h2, Lib.hid h1⟩)
                  · exact .inr (.inr (Lib.hid h1))
                rcases hd with hd | ⟨hd, hd2⟩ | hd
                · have k1 : (yc = zc) = True := eq_true hd.out.1
                  have k2 : (ys = zs) = True := eq_true hd.out.2
                  refine wp_region_M o_emendatelaw38_InsertionEquations_15 (by kernel_rfl) (by kernel_rfl) (by intro c a d v w h; cases d <;> exact h) ?_; unfold o_emendatelaw38_InsertionEquations_15
                  iterate 18 (refine wpF_h rfl rfl (fun K hK => ?_); go_simp; refine hK _ _ ?_; clear hK K)
                  refine wpF_o rfl rfl (fun K hK => ?_)
                  go_simp
                  refine hK _ _ (.inl (by kernel_rfl)) ?_
                  clear hK K
                  refine wpF_nil ?_
                  have HTN := Lib.hid (show RowB ((w9.setCell ⟨ab, h9, none⟩ (.bool true)).drew) ab M (upd Tt h9 true) from HT9.out.set h9 true)
                  have HFN := Lib.hid (show Fut wq ((w9.setCell ⟨ab, h9, none⟩ (.bool true)).drew) from (HI9.out.setCell (p := ⟨ab, h9, none⟩) hab _).drew)
                  generalize ((w9.setCell ⟨ab, h9, none⟩ (.bool true)).drew) = wz9 at *
                  clear t0 t1 t2 t3 t4 g0 g4 g5
                  go_wp2_with fail
                  exact ⟨⟨j + 1, upd Tt h9 true, by omega, by go_num, HFN, HTN, Lib.hid (HAT.out.step HEX.out (show h9 = (toEE ⟨(h9 : Int), xt, xc, xl0, xl1, xA, xk⟩).h from by simp [toEE]) (fun _ => rfl) (fun _ => rfl))⟩, by simp [intOf]; omega⟩
                · have k1 : (yc = zc) = True := eq_true hd2.out
                  have k2 : (ys = zs) = False := eq_false hd.out
                  refine wp_region_M o_emendatelaw38_InsertionEquations_15 (by kernel_rfl) (by kernel_rfl) (by intro c a d v w h; cases d <;> exact h) ?_; unfold o_emendatelaw38_InsertionEquations_15
                  iterate 18 (refine wpF_h rfl rfl (fun K hK => ?_); go_simp; refine hK _ _ ?_; clear hK K)
                  refine wpF_o rfl rfl (fun K hK => ?_)
                  go_simp
                  refine hK _ _ (.inl (by kernel_rfl)) ?_
                  clear hK K
                  refine wpF_nil ?_
                  have HTN := Lib.hid (show RowB ((w9.setCell ⟨ab, h9, none⟩ (.bool false)).drew) ab M (upd Tt h9 false) from HT9.out.set h9 false)
                  have HFN := Lib.hid (show Fut wq ((w9.setCell ⟨ab, h9, none⟩ (.bool false)).drew) from (HI9.out.setCell (p := ⟨ab, h9, none⟩) hab _).drew)
                  generalize ((w9.setCell ⟨ab, h9, none⟩ (.bool false)).drew) = wz9 at *
                  clear t0 t1 t2 t3 t4 g0 g4 g5
                  go_wp2_with fail
                  exact ⟨⟨j + 1, upd Tt h9 false, by omega, by go_num, HFN, HTN, Lib.hid (HAT.out.step HEX.out (show h9 = (toEE ⟨(h9 : Int), xt, xc, xl0, xl1, xA, xk⟩).h from by simp [toEE]) (fun h => absurd (HYZ.out.1 h).2 hd.out) (fun h => by rw [HTT.out] at h; exact h))⟩, by simp [intOf]; omega⟩
                · have k1 : (yc = zc) = False := eq_false hd.out
                  refine wp_region_M o_emendatelaw38_InsertionEquations_15 (by kernel_rfl) (by kernel_rfl) (by intro c a d v w h; cases d <;> exact h) ?_; unfold o_emendatelaw38_InsertionEquations_15
                  iterate 18 (refine wpF_h rfl rfl (fun K hK => ?_); go_simp; refine hK _ _ ?_; clear hK K)
                  refine wpF_o rfl rfl (fun K hK => ?_)
                  go_simp
                  refine hK _ _ (.inl (by kernel_rfl)) ?_
                  clear hK K
                  refine wpF_nil ?_
                  have HTN := Lib.hid (show RowB ((w9.setCell ⟨ab, h9, none⟩ (.bool false)).drew) ab M (upd Tt h9 false) from HT9.out.set h9 false)
                  have HFN := Lib.hid (show Fut wq ((w9.setCell ⟨ab, h9, none⟩ (.bool false)).drew) from (HI9.out.setCell (p := ⟨ab, h9, none⟩) hab _).drew)
                  generalize ((w9.setCell ⟨ab, h9, none⟩ (.bool false)).drew) = wz9 at *
                  clear t0 t1 t2 t3 t4 g0 g4 g5
                  go_wp2_with fail
                  exact ⟨⟨j + 1, upd Tt h9 false, by omega, by go_num, HFN, HTN, Lib.hid (HAT.out.step HEX.out (show h9 = (toEE ⟨(h9 : Int), xt, xc, xl0, xl1, xA, xk⟩).h from by simp [toEE]) (fun h => absurd (HYZ.out.1 h).1 hd.out) (fun h => by rw [HTT.out] at h; exact h))⟩, by simp [intOf]; omega⟩
          · go_simp
            refine hK _ _ (.inr ((Fut.refl _).alloc _)) ?_
            clear hK K
            obtain ⟨q, hqq⟩ : ∃ q, q = wx.heap.size := ⟨_, rfl⟩
            rw [← hqq]
            have hq0 : Blk (wx.drew.alloc (.cells #[.int .i64 0, .int .i64 0] 40)) q 40 #[.int .i64 0, .int .i64 0] := by rw [hqq]; exact Blk.new wx.drew _ _
            have hql : wx.heap.size ≤ q := by omega
            clear hqq
            refine wpF_o rfl rfl (fun K hK => ?_)
            go_simp
            go_at_call 26
            refine (HTA.out _ (((Fut.refl wx).drew).alloc _)).mono ?_
            rintro r wt ⟨⟨TA, tc, rfl, hrd⟩, hbt⟩
            have hq1 := hq0.fut hbt
            have ht0 : Fut wx wt := (((Fut.refl wx).drew).alloc _).trans hbt
            refine hK _ _ (.inr hbt) ?_
            clear hK K hbt
            refine wpF_o rfl rfl (fun K hK => ?_)
            go_simp
            go_at_call 25
            refine (HCM.out _ _ _ (hrd)).mono ?_
            rintro r wc ⟨hr, hbc⟩
            rw [show comb xc ((xt.map Int.toNat).map V) = ⟨yc, ys⟩ from HY.out.symm] at hr
            subst hr
            have hc0 : Fut wx wc := (ht0).trans hbc
            refine hK _ _ (.inr hbc) ?_
            clear hK K
            have hq : Blk wc q 40 #[.int .i64 0, .int .i64 0] := hq1.fut hbc
            have hfs : Fut wx wc := hc0
            clear hc0 hrd ht0 hbc hq0 hq1
            have HQ := Lib.hid hq
            have HFS := Lib.hid hfs
            have HQL := Lib.hid hql
            clear hq hfs hql
            generalize wc = ws at *
            refine wpF_o rfl rfl (fun K hK => ?_)
            have z0 := HQ.out.cell (i := 0) rfl
            have z1 := HQ.out.cell (i := 1) rfl
            have z2 := HQ.out.fz 0
            have z3 := HQ.out.fz 1
            go_simp
            refine hK _ _ (.inl (by kernel_rfl)) ?_
            clear hK K z0 z1 z2 z3
            have HQZ := Lib.hid (show Blk ((ws.setCell ⟨q, 0, none⟩ (.int .i64 yc)).setCell ⟨q, 1, none⟩ (.int .i64 ys)) q 40 #[.int .i64 yc, .int .i64 ys] from (HQ.out.set 0 _).set 1 _)
            have HFZ := Lib.hid (show Fut wx ((ws.setCell ⟨q, 0, none⟩ (.int .i64 yc)).setCell ⟨q, 1, none⟩ (.int .i64 ys)) from (HFS.out.setCell (p := ⟨q, 0, none⟩) HQL.out _).setCell (p := ⟨q, 1, none⟩) HQL.out _)
            generalize ((ws.setCell ⟨q, 0, none⟩ (.int .i64 yc)).setCell ⟨q, 1, none⟩ (.int .i64 ys)) = wz at *
            clear HQ HFS HQL
            refine wpF_nil ?_
            have HIZ := Lib.hid (HIX.out.trans HFZ.out)
            have HTZ := Lib.hid (RowB.fut HBX.out HFZ.out)
            clear HIX HBX
            have t0 := cell_fut (HQZ.out.cell (i := 0) rfl)
            have t1 := cell_fut (HQZ.out.cell (i := 1) rfl)
            have t2 := cell_fut (HFZ.out.cell (y0 0 #[]))
            have t3 := cell_fut ((HRV.out.fut HIZ.out).c hh9)
            have t4 := cell_fut ((HRV.out.fut HIZ.out).s hh9)
            obtain ⟨zc, hzc⟩ : ∃ z, z = (V h9).c := ⟨_, rfl⟩
            obtain ⟨zs, hzs⟩ : ∃ z, z = (V h9).s := ⟨_, rfl⟩
            rw [← hzc] at t3
            rw [← hzs] at t4
            have HZ := Lib.hid (show V h9 = ⟨zc, zs⟩ from by rw [hzc, hzs])
            clear hzc hzs
            have HLE := Lib.hid (fun w' => rless_any ⟨yc, ys⟩ ⟨zc, zs⟩ w')
            rw [show ltV ⟨yc, ys⟩ ⟨zc, zs⟩ = false from by rw [HY.out, ← HZ.out]; exact not_lt_of_leV (HSO.out.closed _ HEM.out)] at HLE
            go_wp2_with fail
            refine wp_region_M o_emendatelaw38_InsertionEquations_13 (by kernel_rfl) (by kernel_rfl) (by intro c a d v w h; cases d <;> exact h) ?_; unfold o_emendatelaw38_InsertionEquations_13
            iterate 6 (refine wpF_h rfl rfl (fun K hK => ?_); go_simp; refine hK _ _ ?_; clear hK K)
            refine wpF_o rfl rfl (fun K hK => ?_)
            go_simp
            go_at_call 23
            refine (HLE.out _).mono ?_
            rintro r w9 ⟨rfl, hb9⟩
            have HF9 := Lib.hid (show Fut wz w9 from (Fut.refl wz).drew.trans hb9)
            refine hK _ _ (.inr hb9) ?_
            clear hK K hb9
            refine wpF_nil ?_
            have HI9 := Lib.hid (HIZ.out.trans HF9.out)
            have HT9 := Lib.hid (HTZ.out.fut HF9.out)
            have t0 := cell_fut (HF9.out.cell (t0 0 #[]))
            have t1 := cell_fut (HF9.out.cell (t1 0 #[]))
            have t2 := cell_fut (HF9.out.cell (t2 0 #[]))
            have t3 := cell_fut (HF9.out.cell (t3 0 #[]))
            have t4 := cell_fut (HF9.out.cell (t4 0 #[]))
            clear y0 y1 y2 y3 y4 HIZ HTZ HLE HF9
            have g5 := World.rowIs.cell HT9.out hh9
            have g4 := World.rowIs.frozen HT9.out h9
            have g0 := cell_fut g5
            obtain ⟨tb, htb⟩ : ∃ tb, Tt h9 = tb := ⟨_, rfl⟩
            have HTT := Lib.hid htb
            simp only [htb] at g5 g0
            clear htb
            have HYZ := Lib.hid (show ev V (toEE ⟨(h9 : Int), xt, xc, xl0, xl1, xA, xk⟩) = V (toEE ⟨(h9 : Int), xt, xc, xl0, xl1, xA, xk⟩).h ↔ yc = zc ∧ ys = zs from by
              rw [← HY.out, show (toEE ⟨(h9 : Int), xt, xc, xl0, xl1, xA, xk⟩).h = h9 from by simp [toEE], HZ.out, VV.mk.injEq])
            clear HQZ HFZ
            go_wp2_with fail
            cases tb with
            | true =>
              refine wp_region_M o_emendatelaw38_InsertionEquations_15 (by kernel_rfl) (by kernel_rfl) (by intro c a d v w h; cases d <;> exact h) ?_; unfold o_emendatelaw38_InsertionEquations_15
              iterate 9 (refine wpF_h rfl rfl (fun K hK => ?_); go_simp; refine hK _ _ ?_; clear hK K)
              iterate 7 (refine wpF_hs2 rfl rfl (fun K hK => ?_); go_simp; refine hK _ _ ?_; clear hK K)
              iterate 2 (refine wpF_h rfl rfl (fun K hK => ?_); go_simp; refine hK _ _ ?_; clear hK K)
              refine wpF_o rfl rfl (fun K hK => ?_)
              go_simp
              refine hK _ _ (.inl (by kernel_rfl)) ?_
              clear hK K
              refine wpF_nil ?_
              have HTN := Lib.hid (show RowB ((w9.setCell ⟨ab, h9, none⟩ (.bool true)).drew) ab M (upd Tt h9 true) from HT9.out.set h9 true)
              have HFN := Lib.hid (show Fut wq ((w9.setCell ⟨ab, h9, none⟩ (.bool true)).drew) from (HI9.out.setCell (p := ⟨ab, h9, none⟩) hab _).drew)
              generalize ((w9.setCell ⟨ab, h9, none⟩ (.bool true)).drew) = wz9 at *
              clear t0 t1 t2 t3 t4 g0 g4 g5
              go_wp2_with fail
              exact ⟨⟨j + 1, upd Tt h9 true, by omega, by go_num, HFN, HTN, Lib.hid (HAT.out.step HEX.out (show h9 = (toEE ⟨(h9 : Int), xt, xc, xl0, xl1, xA, xk⟩).h from by simp [toEE]) (fun _ => rfl) (fun _ => rfl))⟩, by simp [intOf]; omega⟩
            | false =>
              have hd : Hid (yc = zc ∧ ys = zs) ∨ (Hid (¬ ys = zs) ∧ Hid (yc = zc)) ∨ Hid (¬ yc = zc) := by
                by_cases h1 : yc = zc
                · by_cases h2 : ys = zs
                  · exact .inl (Lib.hid ⟨h1, h2⟩)
                  · exact .inr (.inl ⟨Lib.hid h2, Lib.hid h1⟩)
                · exact .inr (.inr (Lib.hid h1))
              rcases hd with hd | ⟨hd, hd2⟩ | hd
              · have k1 : (yc = zc) = True := eq_true hd.out.1
                have k2 : (ys = zs) = True := eq_true hd.out.2
                refine wp_region_M o_emendatelaw38_InsertionEquations_15 (by kernel_rfl) (by kernel_rfl) (by intro c a d v w h; cases d <;> exact h) ?_; unfold o_emendatelaw38_InsertionEquations_15
                iterate 18 (refine wpF_h rfl rfl (fun K hK => ?_); go_simp; refine hK _ _ ?_; clear hK K)
                refine wpF_o rfl rfl (fun K hK => ?_)
                go_simp
                refine hK _ _ (.inl (by kernel_rfl)) ?_
                clear hK K
                refine wpF_nil ?_
                have HTN := Lib.hid (show RowB ((w9.setCell ⟨ab, h9, none⟩ (.bool true)).drew) ab M (upd Tt h9 true) from HT9.out.set h9 true)
                have HFN := Lib.hid (show Fut wq ((w9.setCell ⟨ab, h9, none⟩ (.bool true)).drew) from (HI9.out.setCell (p := ⟨ab, h9, none⟩) hab _).drew)
                generalize ((w9.setCell ⟨ab, h9, none⟩ (.bool true)).drew) = wz9 at *
                clear t0 t1 t2 t3 t4 g0 g4 g5
                go_wp2_with fail
                exact ⟨⟨j + 1, upd Tt h9 true, by omega, by go_num, HFN, HTN, Lib.hid (HAT.out.step HEX.out (show h9 = (toEE ⟨(h9 : Int), xt, xc, xl0, xl1, xA, xk⟩).h from by simp [toEE]) (fun _ => rfl) (fun _ => rfl))⟩, by simp [intOf]; omega⟩
              · have k1 : (yc = zc) = True := eq_true hd2.out
                have k2 : (ys = zs) = False := eq_false hd.out
                refine wp_region_M o_emendatelaw38_InsertionEquations_15 (by kernel_rfl) (by kernel_rfl) (by intro c a d v w h; cases d <;> exact h) ?_; unfold o_emendatelaw38_InsertionEquations_15
                iterate 18 (refine wpF_h rfl rfl (fun K hK => ?_); go_simp; refine hK _ _ ?_; clear hK K)
                refine wpF_o rfl rfl (fun K hK => ?_)
                go_simp
                refine hK _ _ (.inl (by kernel_rfl)) ?_
                clear hK K
                refine wpF_nil ?_
                have HTN := Lib.hid (show RowB ((w9.setCell ⟨ab, h9, none⟩ (.bool false)).drew) ab M (upd Tt h9 false) from HT9.out.set h9 false)
                have HFN := Lib.hid (show Fut wq ((w9.setCell ⟨ab, h9, none⟩ (.bool false)).drew) from (HI9.out.setCell (p := ⟨ab, h9, none⟩) hab _).drew)
                generalize ((w9.setCell ⟨ab, h9, none⟩ (.bool false)).drew) = wz9 at *
                clear t0 t1 t2 t3 t4 g0 g4 g5
                go_wp2_with fail
                exact ⟨⟨j + 1, upd Tt h9 false, by omega, by go_num, HFN, HTN, Lib.hid (HAT.out.step HEX.out (show h9 = (toEE ⟨(h9 : Int), xt, xc, xl0, xl1, xA, xk⟩).h from by simp [toEE]) (fun h => absurd (HYZ.out.1 h).2 hd.out) (fun h => by rw [HTT.out] at h; exact h))⟩, by simp [intOf]; omega⟩
              · have k1 : (yc = zc) = False := eq_false hd.out
                refine wp_region_M o_emendatelaw38_InsertionEquations_15 (by kernel_rfl) (by kernel_rfl) (by intro c a d v w h; cases d <;> exact h) ?_; unfold o_emendatelaw38_InsertionEquations_15
                iterate 18 (refine wpF_h rfl rfl (fun K hK => ?_); go_simp; refine hK _ _ ?_; clear hK K)
                refine wpF_o rfl rfl (fun K hK => ?_)
                go_simp
                refine hK _ _ (.inl (by kernel_rfl)) ?_
                clear hK K
                refine wpF_nil ?_
                have HTN := Lib.hid (show RowB ((w9.setCell ⟨ab, h9, none⟩ (.bool false)).drew) ab M (upd Tt h9 false) from HT9.out.set h9 false)
                have HFN := Lib.hid (show Fut wq ((w9.setCell ⟨ab, h9, none⟩ (.bool false)).drew) from (HI9.out.setCell (p := ⟨ab, h9, none⟩) hab _).drew)
                generalize ((w9.setCell ⟨ab, h9, none⟩ (.bool false)).drew) = wz9 at *
                clear t0 t1 t2 t3 t4 g0 g4 g5
                go_wp2_with fail
                exact ⟨⟨j + 1, upd Tt h9 false, by omega, by go_num, HFN, HTN, Lib.hid (HAT.out.step HEX.out (show h9 = (toEE ⟨(h9 : Int), xt, xc, xl0, xl1, xA, xk⟩).h from by simp [toEE]) (fun h => absurd (HYZ.out.1 h).1 hd.out) (fun h => by rw [HTT.out] at h; exact h))⟩, by simp [intOf]; omega⟩
        · have hjn : j = n := by omega
          subst hjn
          have HAL := Lib.hid (fun v => HAT.out.all (by rw [List.length_map]; exact HEL.out) HES.out HSO.out v)
          have g1 := (HBG.out.fut HIF.out).cell (i := 1) rfl
          clear HAT
          go_wp2_with fail
          obtain ⟨wo, hwo⟩ : ∃ x, x = wr := ⟨_, rfl⟩
          have HIo := Lib.hid HIF.out
          clear g1
          go_loopw [11] (fun i wr => ∃ (k : Nat), k ≤ M ∧ i = .int .i64 k ∧ Hid (Fut wq wr) ∧ Hid (RowB wr ab M Tt)) (fun i _ => M - (intOf i).toNat)
          case atStart => exact ⟨0, Nat.zero_le _, rfl, HIF, HTB⟩
          case round =>
            clear HIF HTB
            obtain ⟨k, hk, rfl, HIF, HTB⟩ := hrel
            have q1 := (HB.out.fut (HFQ.out.trans HIF.out)).cell (i := 1) rfl
            by_cases hlt : k < M
            · have g5 := World.rowIs.cell HTB.out hlt
              have t3 := (HRV.out.fut HIF.out).c hlt
              obtain ⟨tb, htb⟩ : ∃ tb, Tt k = tb := ⟨_, rfl⟩
              have HTT := Lib.hid htb
              simp only [htb] at g5
              clear htb
              cases tb with
              | true =>
                go_wp2_with fail
                exact ⟨⟨k + 1, by omega, by go_num, HIF, HTB⟩, by simp [intOf]; omega⟩
              | false =>
                have h8 := HAL.out k HTT.out
                rw [h8] at t3
                clear h8
                go_wp2_with fail
                exact ⟨⟨k + 1, by omega, by go_num, HIF, HTB⟩, by simp [intOf]; omega⟩
            · go_wp2_with fail
              refine (awake_any _).mono ?_
              rintro r w9 ⟨rfl, hb⟩
              have f9 := HIF.out.trans (show Fut wr w9 from hb)
              clear hb
              go_wp2_with fail
              go_ret
              exact ⟨rfl, HF.out.trans (HFQ.out.trans f9)⟩
end Go.Proofs.Ytleapckcihcpaaa
