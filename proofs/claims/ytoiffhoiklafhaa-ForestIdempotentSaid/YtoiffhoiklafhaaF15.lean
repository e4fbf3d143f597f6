/-
  A forest is acyclic and keeps the least values; the law, walked.
-/
import Derived.Test.YtoiffhoiklafhaaF12
import Derived.Test.YtoiffhoiklafhaaBG
namespace Go.Proofs.Ytoiffhoiklafhaa
open Go.RowKit Go.Deep PK
attribute [local go_sem] Oper.lit Oper.litS fut_fut fut_drew World.cell?_alloc_some
attribute [local go_sem] fut_base_drew
/-- the least values of the forest are those of the hypergraph, where the root reaches -/
theorem sol_forest {N : Nat} {V W : Nat → VV} {es : List EI} {r : Int} (hes : ∀ e ∈ EEs es, PK.okE e) (hV : Sol (EEs es) V) (hs : ∀ v, (V v).s < INF) (hW : Sol (EEs (fE N V es r)) W) (hnn : ∀ e ∈ es, 0 ≤ e.h ∧ ∀ t ∈ e.t, 0 ≤ t) : ∀ (m v : Nat), (V v).s.toNat < m → rchB N V es r v = true → W v = V v
  | 0, v, h => by omega
  | m + 1, v, h => by
    intro hr
    have hVW : ∀ v, leV (V v) (W v) := hW.above V hV.ok (fun e he => by
      obtain ⟨x, hx, rfl⟩ := List.mem_map.1 he
      exact hV.closed _ (List.mem_map.2 ⟨x, (mem_fE.1 hx).1, rfl⟩))
    refine leV_antisymm ?_ (hVW v)
    rcases hV.attained hes v with h1 | ⟨e, he, h1, h2⟩
    · rw [h1]; exact leV_top (hW.ok v)
    · obtain ⟨x, hx, rfl⟩ := List.mem_map.1 he
      have hxh : x.h.toNat = v := h1
      by_cases hc : (V v).c < INF
      · have ht : tgt V x = true := by
          unfold tgt
          rw [hxh, decide_eq_true hc, h2, decide_eq_true rfl]; rfl
        have hg : x ∈ fE N V es r := mem_fE.2 ⟨hx, ht, by rw [hxh]; exact hr⟩
        have hcl := hW.closed _ (List.mem_map.2 ⟨x, hg, rfl⟩ : toEE x ∈ EEs (fE N V es r))
        have heq : ev W (toEE x) = ev V (toEE x) := by
          unfold ev
          congr 1
          refine List.map_congr_left (fun t hm => ?_)
          obtain ⟨y, hy, rfl⟩ := List.mem_map.1 hm
          have hlt := tail_lt hV.ok hs ht hy
          rw [hxh] at hlt
          exact sol_forest hes hV hs hW hnn m _ (by omega) (rchB_step hx ht (by rw [hxh]; exact hr) hy)
        rw [heq, h2] at hcl
        rw [show (toEE x).h = v from hxh] at hcl
        exact hcl
      · have ho := (hV.ok v).2.1
        have hoc := hV.ok v
        have : V v = top := by
          have h5 : (V v).c = INF := by omega
          have h6 := hoc.2.2.2.2 h5
          cases hvv : V v with
          | mk c s =>
            rw [hvv] at h5 h6
            simp only at h5 h6
            rw [h5, h6]; rfl
        rw [this]; exact leV_top (hW.ok v)
set_option maxHeartbeats 12800000 in
set_option maxRecDepth 4000 in
theorem law_facyc (N : Int) (A : Option Addr) (n c : Nat) (es : List EI) (v8 : Int) (w : World) (hl : es.length = n) (hn : n ≤ maxLen) (hR : RdE w A es) (v8l : 0 ≤ v8) (v8h : v8 ≤ 255) :
    Calls Try.prog 6 #[hv N A n c, .int .u8 v8] w fun e w' => e = .returned (.bool true) ∧ Below w.heap.size w w' := by
  have HL := Lib.hid hl
  have HR := Lib.hid hR
  have HBO := Lib.hid (fun w' (hf : Fut w w') => bounded_any N A n c es w' hl hn (hR.fut hf))
  clear hl hn hR
  obtain ⟨wb, hwb⟩ : ∃ wb, wb = w.alloc (.cells #[.int .i64 N, .slice A n c] 24) := ⟨_, rfl⟩
  have HF := Lib.hid (show Fut w wb from by rw [hwb]; exact (Fut.refl w).alloc _)
  have HB := Lib.hid (show Blk wb w.heap.size 24 #[.int .i64 N, .slice A n c] from by rw [hwb]; (repeat (first | exact heap_new' _ _ _ (by first | rfl | (simp only [World.size_alloc])) | refine (blk_alloc_lt _ _ _ (by first | omega | (simp only [World.size_alloc]; omega))).trans ?_)))
  go_enter Try.func6, Try.ntmps6
  go_wp2_with fail
  rw [← hwb]
  clear hwb
  refine (HBO.out _ HF.out).mono ?_
  rintro x w1 ⟨⟨bo, rfl, hbo⟩, hb⟩
  have HF1 := Lib.hid (show Fut wb w1 from hb)
  have HBT := Lib.hid hbo
  clear hb hbo HBO
  cases bo with
  | false =>
    go_wp2_with fail
    refine (awake_any _).mono ?_
    rintro x w2 ⟨rfl, hb⟩
    have HF2 := Lib.hid (HF1.out.trans (show Fut w1 w2 from hb))
    clear hb
    go_wp2_with fail
    go_ret
    exact ⟨rfl, HF.out.trans HF2.out⟩
  | true =>
    obtain ⟨M, V, rfl, hsm, hsol, hsz⟩ := HBT.out rfl
    obtain ⟨h1, h2, h3, h4⟩ := smallB_parts hsm
    have HSO := Lib.hid hsol
    have HSZ := Lib.hid hsz
    have HVD := Lib.hid h4
    have HTL := Lib.hid h3
    have HSM := Lib.hid hsm
    have hM : M ≤ 30 := by omega
    have hM1 : 1 ≤ M := by have := (validB_parts h4).1; omega
    have hn60 : n ≤ 60 := by have := HL.out; omega
    clear h1 h2 h3 h4 hsm hsol hsz HBT
    have HVP := Lib.hid (validB_parts HVD.out).2.2
    have hwm : 0 ≤ v8 % (M : Int) ∧ v8 % (M : Int) < M := ⟨Int.emod_nonneg _ (by omega), Int.emod_lt_of_pos _ (by omega)⟩
    have q0 := (HB.out.fut HF1.out).cell (i := 0) rfl
    have q1 := (HB.out.fut HF1.out).cell (i := 1) rfl
    go_wp2_with fail
    obtain ⟨rt, hi⟩ : ∃ rt : Nat, v8 % (M : Int) = rt := ⟨(v8 % (M : Int)).toNat, by omega⟩
    rw [hi] at hwm ⊢
    have hrt : rt < M := by omega
    clear hi hwm
    have HFT := Lib.hid (fun w' (hf : Fut w w') => fTight_any M A n c es rt w' V HSO.out HL.out (by omega) HVD.out HTL.out (HR.out.fut hf))
    have HS1 := Lib.hid (fun w' (hf : Fut w w') => rsolve_any M A n c es w' HL.out (by omega) HVD.out (fun e he => by have := HTL.out e he; omega) (HR.out.fut hf))
    obtain ⟨m, hm⟩ : ∃ m, (fP M V es (rt : Int)).length = m := ⟨_, rfl⟩
    have hml : (fE M V es (rt : Int)).length = m := by unfold fE; rw [List.length_map, hm]
    have hmn : m ≤ 1000 := by rw [← hml]; exact Nat.le_trans (fE_le M V es rt) (by have := HL.out; omega)
    have hm63 : m ≤ 9223372036854775807 := by omega
    have HVG := Lib.hid (forest_valid (r := (rt : Int)) (V := V) HVD.out)
    have HTG := Lib.hid (show ∀ e ∈ fE M V es (rt : Int), e.t.length ≤ 4 from fun e he => HTL.out e (mem_fE.1 he).1)
    obtain ⟨l, hol⟩ := forest_ord (r := (rt : Int)) (N := M) HSO.out.ok HSZ.out (fun e he t ht => by have := (okE_parts (HVP.out e he)).2.2.2.2 t ht; omega)
    have HVA := Lib.hid (fun XA Xc w' (hr : RdE w' XA (fE M V es (rt : Int))) => rValid_any M XA m Xc (fE M V es (rt : Int)) w' hml (by unfold maxLen; omega) hr)
    rw [HVG.out] at HVA
    have HOR := Lib.hid (fun XA Xc w' (hr : RdE w' XA (fE M V es (rt : Int))) => rOrder_any M XA m Xc (fE M V es (rt : Int)) w' hml hmn (by omega) (fun e he => ⟨(okE_parts (HVP.out e (mem_fE.1 he).1)).1, (okE_parts (HVP.out e (mem_fE.1 he).1)).2.1⟩) (fun e he => (okE_parts (HVP.out e (mem_fE.1 he).1)).2.2.2.2) hr)
    rw [hol] at HOR
    have HS2 := Lib.hid (fun XA Xc w' (hr : RdE w' XA (fE M V es (rt : Int))) => rsolve_any M XA m Xc (fE M V es (rt : Int)) w' hml (by omega) HVG.out (fun e he => by have := HTG.out e he; omega) hr)
    have HEQ := Lib.hid (fun (W : Nat → VV) (hW : Sol (EEs (fE M V es (rt : Int))) W) v (hv : rchB M V es (rt : Int) v = true) => sol_forest (EEs_ok HVD.out) HSO.out HSZ.out hW (fun e he => ⟨(okE_parts (HVP.out e he)).1, fun t ht => ((okE_parts (HVP.out e he)).2.2.2.2 t ht).1⟩) _ v (Nat.lt_succ_self _) hv)
    have HRR := Lib.hid (show rchB M V es (rt : Int) rt = true from by
      have h1 := rchB_root (N := M) (V := V) (es := es) (r := (rt : Int)) (by omega) (by omega)
      rwa [Int.toNat_natCast] at h1)
    have HML := Lib.hid hml
    rw [hm] at HFT
    clear hm hml hol q0 q1
    refine (HFT.out _ (HF.out.trans HF1.out)).mono ?_
    rintro x w2 ⟨⟨XA, Xc, GA, Gc, rfl, hre, hrf⟩, hb⟩
    have f2 := (show Fut w1 w2 from hb).alloc (.cells #[.int .i64 M, .slice XA m Xc] 24)
    have HF2 := Lib.hid (HF1.out.trans f2)
    have HE2 := Lib.hid (hre.fut ((Fut.refl w2).alloc (.cells #[.int .i64 M, .slice XA m Xc] 24)))
    have HBG := Lib.hid (show Blk (w2.alloc (.cells #[.int .i64 M, .slice XA m Xc] 24)) w2.heap.size 24 #[.int .i64 M, .slice XA m Xc] from heap_new' _ _ _ rfl)
    have q0 := (HB.out.fut HF2.out).cell (i := 0) rfl
    have q1 := (HB.out.fut HF2.out).cell (i := 1) rfl
    clear hb hre hrf HFT f2
    go_wp2_with fail
    generalize w2.alloc (.cells #[.int .i64 M, .slice XA m Xc] 24) = wk at *
    refine (HVA.out XA Xc wk HE2.out).mono ?_
    rintro x w3 ⟨rfl, hb⟩
    have f3 : Fut wk w3 := hb
    have q0 := f3.cell q0
    have q1 := f3.cell q1
    have g0 := (HBG.out.fut f3).cell (i := 0) rfl
    have g1 := (HBG.out.fut f3).cell (i := 1) rfl
    clear hb HVA
    go_wp2_with fail
    refine (HOR.out XA Xc w3 (HE2.out.fut f3)).mono ?_
    rintro x w4 ⟨hor, hb⟩
    obtain ⟨LA, Lc, rfl, _⟩ := hor
    have f4 : Fut wk w4 := f3.trans hb
    have q0 := (show Fut w3 w4 from hb).cell q0
    have q1 := (show Fut w3 w4 from hb).cell q1
    have g0 := (HBG.out.fut f4).cell (i := 0) rfl
    have g1 := (HBG.out.fut f4).cell (i := 1) rfl
    clear hb HOR f3
    go_wp2_with fail
    refine (HS1.out _ (HF.out.trans (HF2.out.trans f4))).mono ?_
    rintro x w5 ⟨⟨V', vb, eb0, rfl, hsol, hrow, _, _, _⟩, hb⟩
    obtain rfl := HSO.out.unique hsol
    have f5 : Fut wk w5 := f4.trans hb
    have HRV5 := Lib.hid hrow
    have g0 := (HBG.out.fut f5).cell (i := 0) rfl
    have g1 := (HBG.out.fut f5).cell (i := 1) rfl
    clear hb hsol hrow HS1 f4 q0 q1
    go_wp2_with fail
    refine (HS2.out XA Xc w5 (HE2.out.fut f5)).mono ?_
    rintro x w6 ⟨⟨W, ub, eb1, rfl, hsol, hrow, _, _, _⟩, hb⟩
    have HF6 := Lib.hid (f5.trans (show Fut w5 w6 from hb))
    have HRV := Lib.hid (HRV5.out.fut (show Fut w5 w6 from hb))
    have HRU := Lib.hid hrow
    have HWE := Lib.hid (HEQ.out W hsol)
    have a0 := cell_fut (HRV.out.c hrt)
    have a1 := cell_fut (HRV.out.s hrt)
    have b0 := cell_fut (HRU.out.c hrt)
    have b1 := cell_fut (HRU.out.s hrt)
    rw [HWE.out rt HRR.out] at b0 b1
    clear hb hsol hrow HS2 f5 g0 g1 HEQ
    go_wp2_with fail
    refine wp_region_M o_emendatelaw32_ForestAcyclic_10 (by kernel_rfl) (by kernel_rfl) (by intro c a d v w h; cases d <;> exact h) ?_; unfold o_emendatelaw32_ForestAcyclic_10
    iterate 13 (refine wpF_h rfl rfl (fun K hK => ?_); go_simp; refine hK _ _ ?_; clear hK K)
    refine wpF_nil ?_
    clear a0 a1 b0 b1
    go_wp2_with fail
    obtain ⟨w7, hw7⟩ : ∃ w7, w7 = w6.drew := ⟨_, rfl⟩
    have HF7 := Lib.hid (show Fut wk w7 from by rw [hw7]; exact HF6.out.drew)
    have HRV7 := Lib.hid (show RowV w7 vb M V from by rw [hw7]; exact HRV.out)
    have HRU7 := Lib.hid (show RowV w7 ub M W from by rw [hw7]; exact HRU.out)
    try rw [← hw7]
    clear hw7
    go_loopw [14] (fun i wr => ∃ j : Nat, j ≤ m ∧ i = .int .i64 j ∧ Hid (Fut w7 wr)) (fun i _ => m - (intOf i).toNat)
    case atStart => exact ⟨0, Nat.zero_le _, rfl, Lib.hid (Fut.refl _)⟩
    case round =>
      obtain ⟨j, hj, rfl, HFR⟩ := hrel
      have HFW := Lib.hid (HF7.out.trans HFR.out)
      have g1 := (HBG.out.fut HFW.out).cell (i := 1) rfl
      by_cases hlt : j < m
      · obtain ⟨x, hx⟩ := get_lt HML.out hlt
        have hxm := List.mem_of_getElem? hx
        obtain ⟨x1, x2, x3, x4, x5⟩ := okE_parts (HVP.out x (mem_fE.1 hxm).1)
        obtain ⟨b2, o2, rfl, hc⟩ := (HE2.out.fut HFW.out).1 j x hx
        obtain ⟨ht, htm⟩ := HE2.out.2 x hxm
        have htl := HTG.out x hxm
        have hrx := (mem_fE.1 hxm).2.2
        have HST := Lib.hid (fun t (hm : t ∈ x.t) => rchB_step (mem_fE.1 hxm).1 (mem_fE.1 hxm).2.1 hrx hm)
        obtain ⟨xh, xt, xc, xl0, xl1, xA, xk⟩ := x
        simp only at x1 x2 x3 x4 x5 htl ht htm hrx HST
        obtain ⟨h9, rfl⟩ : ∃ h : Nat, xh = h := ⟨xh.toNat, by omega⟩
        rw [Int.toNat_natCast] at hrx
        have hh9 : h9 < M := by omega
        have c0 := hc 0 _ (by decide) rfl
        have c1 := hc 1 _ (by decide) rfl
        have c2 := hc 2 _ (by decide) rfl
        have c3 := hc 3 _ (by decide) rfl
        have c4 := hc 4 _ (by decide) rfl
        simp only [Nat.add_zero] at c0
        obtain ⟨tl, htl'⟩ : ∃ tl, xt.length = tl := ⟨_, rfl⟩
        rw [htl'] at c1 htl htm
        have HTN := Lib.hid htl'
        have htl63 : tl ≤ 9223372036854775807 := by omega
        have HT := Lib.hid ht
        have HX5 := Lib.hid x5
        have HWH := Lib.hid (HWE.out h9 hrx)
        clear hx hxm hc ht x5 x1 x2 x3 x4 htl' hrx
        obtain ⟨wo, rfl⟩ : ∃ x, x = wr := ⟨_, rfl⟩
        go_wp2_with fail
        have f0 : Fut wo (wo.alloc (.cells #[.int .i64 (h9 : Int), .slice xA tl xk, .int .i64 xc, .int .i64 xl0, .int .i64 xl1] 49)) := (Fut.refl wo).alloc _
        have HEB := Lib.hid (show Blk (wo.alloc (.cells #[.int .i64 (h9 : Int), .slice xA tl xk, .int .i64 xc, .int .i64 xl0, .int .i64 xl1] 49)) wo.heap.size 49 #[.int .i64 (h9 : Int), .slice xA tl xk, .int .i64 xc, .int .i64 xl0, .int .i64 xl1] from heap_new' _ _ _ rfl)
        have HFO := Lib.hid (HFR.out.trans f0)
        generalize wo.alloc (.cells #[.int .i64 (h9 : Int), .slice xA tl xk, .int .i64 xc, .int .i64 xl0, .int .i64 xl1] 49) = wi at *
        generalize wo.heap.size = eb at *
        have e0 := cell_fut (HEB.out.cell (i := 0) rfl)
        have a0 := cell_fut ((HRV7.out.fut HFO.out).c hh9)
        have a1 := cell_fut ((HRV7.out.fut HFO.out).s hh9)
        have b0 := cell_fut ((HRU7.out.fut HFO.out).c hh9)
        have b1 := cell_fut ((HRU7.out.fut HFO.out).s hh9)
        rw [HWH.out] at b0 b1
        clear c0 c1 c2 c3 c4 g1 f0
        refine wp_region_M o_emendatelaw32_ForestAcyclic_16 (by kernel_rfl) (by kernel_rfl) (by intro c a d v w h; cases d <;> exact h) ?_; unfold o_emendatelaw32_ForestAcyclic_16
        iterate 11 (refine wpF_h rfl rfl (fun K hK => ?_); go_simp; refine hK _ _ ?_; clear hK K)
        refine wpF_nil ?_
        clear e0 a0 a1 b0 b1
        go_wp2_with fail
        obtain ⟨wj, hwj⟩ : ∃ wj, wj = wi.drew := ⟨_, rfl⟩
        have HEJ := Lib.hid (show Blk wj eb 49 #[.int .i64 (h9 : Int), .slice xA tl xk, .int .i64 xc, .int .i64 xl0, .int .i64 xl1] from by rw [hwj]; exact HEB.out.drew)
        have HFJ := Lib.hid (show Fut w7 wj from by rw [hwj]; exact HFO.out.drew)
        try rw [← hwj]
        clear hwj
        go_loopw [16] (fun i wr => ∃ k : Nat, k ≤ tl ∧ i = .int .i64 k ∧ Hid (Fut wj wr)) (fun i _ => tl - (intOf i).toNat)
        case atStart => exact ⟨0, Nat.zero_le _, rfl, Lib.hid (Fut.refl _)⟩
        case round =>
          obtain ⟨k, hk, rfl, HFK⟩ := hrel
          have HFL := Lib.hid (HFJ.out.trans HFK.out)
          have e1 := (HEJ.out.fut HFK.out).cell (i := 1) rfl
          by_cases hkt : k < tl
          · obtain ⟨y, hy⟩ := get_lt HTN.out hkt
            have hyv := HX5.out y (List.mem_of_getElem? hy)
            have hwt := HWE.out y.toNat (HST.out y (List.mem_of_getElem? hy))
            obtain ⟨t, rfl⟩ : ∃ t : Nat, y = t := Int.eq_ofNat_of_zero_le hyv.1
            rw [Int.toNat_natCast] at hwt
            have htN : t < M := by omega
            obtain ⟨b4, o4, rfl, hcy⟩ := HT.out k _ hy
            have u0 := cell_fut ((HF7.out.trans HFL.out).cell hcy)
            have a0 := cell_fut ((HRV7.out.fut HFL.out).c htN)
            have a1 := cell_fut ((HRV7.out.fut HFL.out).s htN)
            have b0 := cell_fut ((HRU7.out.fut HFL.out).c htN)
            have b1 := cell_fut ((HRU7.out.fut HFL.out).s htN)
            rw [hwt] at b0 b1
            have e2 := cell_fut e1
            clear hy hyv hcy hwt
            go_wp2_with fail
            clear e1
            refine wp_region_M o_emendatelaw32_ForestAcyclic_21 (by kernel_rfl) (by kernel_rfl) (by intro c a d v w h; cases d <;> exact h) ?_; unfold o_emendatelaw32_ForestAcyclic_21
            iterate 17 (refine wpF_h rfl rfl (fun K hK => ?_); go_simp; refine hK _ _ ?_; clear hK K)
            refine wpF_nil ?_
            go_wp2_with fail
            exact ⟨⟨k + 1, by omega, by go_num, Lib.hid HFK.out.drew⟩, by simp [intOf]; omega⟩
          · go_wp2_with fail
            exact ⟨⟨j + 1, by omega, by go_num, HFL⟩, by simp [intOf]; omega⟩
      · go_wp2_with fail
        refine (awake_any _).mono ?_
        rintro x w9 ⟨rfl, hb⟩
        have f9 := HFW.out.trans (show Fut wr w9 from hb)
        clear hb
        go_wp2_with fail
        go_ret
        exact ⟨rfl, HF.out.trans (HF2.out.trans f9)⟩
end Go.Proofs.Ytoiffhoiklafhaa
