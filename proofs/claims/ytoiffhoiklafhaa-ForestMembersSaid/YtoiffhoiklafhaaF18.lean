/-
  The law of the members of a forest, walked.
-/
import Derived.Test.YtoiffhoiklafhaaF18p
import Derived.Test.YtoiffhoiklafhaaF17
namespace Go.Proofs.Ytoiffhoiklafhaa
open Go.RowKit Go.Deep PK
attribute [local go_sem] Oper.lit Oper.litS fut_fut fut_drew World.cell?_alloc_some
attribute [local go_sem] fut_base_drew
theorem range_getD (l : List Int) (n : Nat) (h : l.length = n) : (List.range n).map (fun i => l.getD i 0) = l := by
  apply List.ext_getElem?
  intro i
  rw [List.getElem?_map]
  by_cases hi : i < n
  · rw [List.getElem?_range hi, Option.map_some, List.getD_eq_getElem?_getD]
    obtain ⟨x, hx⟩ := get_lt h hi
    rw [hx]; rfl
  · rw [List.getElem?_eq_none (by simp; omega), List.getElem?_eq_none (by omega)]; rfl
theorem isL_parts {N : Nat} {V : Nat → VV} {es : List EI} {v : Nat} {d : PK.DT} (h : isL N V es (v : Int) d = true) : validD (EEs es) d (v : Int) = true ∧ val (EEs es) d = V v ∧ (V v).c < INF := by
  unfold isL at h
  rw [Int.toNat_natCast] at h
  simp only [Bool.and_eq_true, decide_eq_true_eq] at h
  exact ⟨h.2.1, h.2.2.2, h.2.2.2 ▸ h.2.2.1⟩
set_option maxHeartbeats 12800000 in
set_option maxRecDepth 4000 in
theorem law_fmem (N : Int) (A : Option Addr) (n c : Nat) (es : List EI) (v8 : Int) (d : DI) (w : World) (hl : es.length = n) (hn : n ≤ maxLen) (hR : RdE w A es) (hD : RdD w d) (v8l : 0 ≤ v8) (v8h : v8 ≤ 255) :
    Calls Try.prog 9 #[hv N A n c, .int .u8 v8, dv d] w fun e w' => e = .returned (.bool true) ∧ Below w.heap.size w w' := by
  have HL := Lib.hid hl
  have HR := Lib.hid hR
  have HBO := Lib.hid (fun w' (hf : Fut w w') => bounded_any N A n c es w' hl hn (hR.fut hf))
  have HDR := Lib.hid hD
  have HFW := Lib.hid (fun w' (hf : Fut w w') => few_any d w' (hD.fut hf))
  obtain ⟨td, htd⟩ : ∃ td, toDT d = td := ⟨_, rfl⟩
  have HTD := Lib.hid htd
  rw [htd] at HFW
  obtain ⟨D, hD2⟩ : ∃ D, D = d := ⟨_, rfl⟩
  have HDD := Lib.hid hD2
  obtain ⟨de, dA, dc, dk⟩ := d
  obtain ⟨dn, hdn⟩ : ∃ dn, dk.length = dn := ⟨_, rfl⟩
  have HDV := Lib.hid (show dv D = .agg #[.int .i64 de, .slice dA dn dc] from by rw [hD2, ← hdn]; rfl)
  simp only [dv, DI.e, DI.A, DI.c, DI.k, hdn] at HFW ⊢
  clear hD htd hD2 hdn
  clear hl hn hR
  obtain ⟨wb, hwb⟩ : ∃ wb, wb = (w.alloc (.cells #[.int .i64 N, .slice A n c] 24)).alloc (.cells #[.int .i64 de, .slice dA dn dc] 36) := ⟨_, rfl⟩
  have HF := Lib.hid (show Fut w wb from by rw [hwb]; exact ((Fut.refl w).alloc _).alloc _)
  have HB := Lib.hid (show Blk wb w.heap.size 24 #[.int .i64 N, .slice A n c] from by rw [hwb]; (repeat (first | exact heap_new' _ _ _ (by first | rfl | (simp only [World.size_alloc])) | refine (blk_alloc_lt _ _ _ (by first | omega | (simp only [World.size_alloc]; omega))).trans ?_)))
  have HD := Lib.hid (show Blk wb (w.heap.size + 1) 36 #[.int .i64 de, .slice dA dn dc] from by rw [hwb]; (repeat (first | exact heap_new' _ _ _ (by first | rfl | (simp only [World.size_alloc])) | refine (blk_alloc_lt _ _ _ (by first | omega | (simp only [World.size_alloc]; omega))).trans ?_)))
  go_enter Try.func9, Try.ntmps9
  go_wp2_with fail
  rw [← hwb]
  clear hwb
  refine (HBO.out _ HF.out).mono ?_
  rintro x w1 ⟨⟨bo, rfl, hbo⟩, hb⟩
  have HF1 := Lib.hid (show Fut wb w1 from hb)
  have HBT := Lib.hid hbo
  clear hb hbo HBO
  cases bo with
  | false =>
    go_wp2_with fail
    refine (awake_any _).mono ?_
    rintro x w2 ⟨rfl, hb⟩
    have HF2 := Lib.hid (HF1.out.trans (show Fut w1 w2 from hb))
    clear hb
    go_wp2_with fail
    go_ret
    exact ⟨rfl, HF.out.trans HF2.out⟩
  | true =>
    obtain ⟨M, V, rfl, hsm, hsol, hsz⟩ := HBT.out rfl
    obtain ⟨h1, h2, h3, h4⟩ := smallB_parts hsm
    have HSO := Lib.hid hsol
    have HSZ := Lib.hid hsz
    have HVD := Lib.hid h4
    have HTL := Lib.hid h3
    have HSM := Lib.hid hsm
    have hM : M ≤ 30 := by omega
    have hM1 : 1 ≤ M := by have := (validB_parts h4).1; omega
    have hn60 : n ≤ 60 := by have := HL.out; omega
    clear h1 h2 h3 h4 hsm hsol hsz HBT
    have d0 := (HD.out.fut HF1.out).cell (i := 0) rfl
    have d1 := (HD.out.fut HF1.out).cell (i := 1) rfl
    go_wp2_with fail
    refine (HFW.out _ (HF.out.trans HF1.out)).mono ?_
    rintro x wz ⟨rfl, hb⟩
    have HF2 := Lib.hid (HF1.out.trans (show Fut w1 wz from hb))
    obtain ⟨fw, hfw⟩ : ∃ fw, decide (0 ≤ leftF td 0 201) = fw := ⟨_, rfl⟩
    have HFE := Lib.hid hfw
    rw [hfw]
    clear hb hfw d0 d1 HFW
    cases fw with
    | false =>
      go_wp2_with fail
      refine (awake_any _).mono ?_
      rintro x w3 ⟨rfl, hb⟩
      have HF3 := Lib.hid (HF2.out.trans (show Fut wz w3 from hb))
      clear hb
      go_wp2_with fail
      go_ret
      exact ⟨rfl, HF.out.trans HF3.out⟩
    | true =>
      have HSD := Lib.hid (show sizD (toDT D) ≤ 201 from by
        have h1 := few_size (of_decide_eq_true HFE.out)
        rw [← HTD.out, ← HDD.out] at h1
        exact h1)
      have HRD := Lib.hid (show RdD w D from by rw [HDD.out]; exact HDR.out)
      have d0 := (HD.out.fut HF2.out).cell (i := 0) rfl
      have d1 := (HD.out.fut HF2.out).cell (i := 1) rfl
      have hwm : 0 ≤ v8 % (M : Int) ∧ v8 % (M : Int) < M := ⟨Int.emod_nonneg _ (by omega), Int.emod_lt_of_pos _ (by omega)⟩
      have q0 := (HB.out.fut HF2.out).cell (i := 0) rfl
      have q1 := (HB.out.fut HF2.out).cell (i := 1) rfl
      go_wp2_with fail
      obtain ⟨rt, hi⟩ : ∃ rt : Nat, v8 % (M : Int) = rt := ⟨(v8 % (M : Int)).toNat, by omega⟩
      rw [hi] at hwm ⊢
      have hrt : rt < M := by omega
      clear hi hwm q0 q1
      have HVP := Lib.hid (validB_parts HVD.out).2.2
      have HFT := Lib.hid (fun w' (hf : Fut w w') => fTight_any M A n c es rt w' V HSO.out HL.out (by omega) HVD.out HTL.out (HR.out.fut hf))
      obtain ⟨m, hm⟩ : ∃ m, (fP M V es (rt : Int)).length = m := ⟨_, rfl⟩
      have hml : (fE M V es (rt : Int)).length = m := by unfold fE; rw [List.length_map, hm]
      have hmi : (fI M V es (rt : Int)).length = m := by unfold fI; rw [List.length_map, hm]
      have hmn : m ≤ 1000 := by rw [← hml]; exact Nat.le_trans (fE_le M V es rt) (by have := HL.out; omega)
      have hm63 : m ≤ 9223372036854775807 := by omega
      have HVG := Lib.hid (forest_valid (r := (rt : Int)) (V := V) HVD.out)
      have HTG := Lib.hid (show ∀ e ∈ fE M V es (rt : Int), e.t.length ≤ 4 from fun e he => HTL.out e (mem_fE.1 he).1)
      have HVA := Lib.hid (fun XA Xc w' (hr : RdE w' XA (fE M V es (rt : Int))) => rValid_any M XA m Xc (fE M V es (rt : Int)) w' hml (by unfold maxLen; omega) hr)
      rw [HVG.out] at HVA
      have HC2 := Lib.hid (fun w' (hf : Fut w w') => fcont_any M A n c es rt D w' V HSO.out HL.out (by omega) HVD.out HTL.out (HR.out.fut hf) (HRD.out.fut hf))
      have HCN := Lib.hid (fun w' (hf : Fut w w') => fCount_any M A n c es rt w' V HSO.out HSZ.out HL.out (by omega) HVD.out HTL.out (HR.out.fut hf))
      obtain ⟨bl, hbl⟩ : ∃ bl, backL es.length (fI M V es (rt : Int)) (fI M V es (rt : Int)).length = bl := ⟨_, rfl⟩
      have hbll : bl.length = n := by rw [← hbl, backL_len]; exact HL.out
      have HBL := Lib.hid hbl
      have HMP := Lib.hid (fun FA Fc w' (hr : Rd1 w' FA (.int .i64 ·) bl) (hd : RdD w' D) => rmap_any bl FA n Fc hbll (by omega) D w' (by have := HSD.out; omega) hr hd)
      have HRV := Lib.hid (fun (y : DI) XA Xc w' (hr : RdE w' XA (fE M V es (rt : Int))) (hd : RdD w' y) (hs : sizD (toDT y) ≤ 500) => rvalue_any M XA m Xc (fE M V es (rt : Int)) hml (by unfold maxLen; omega) HVG.out HTG.out y rt 500 w' hs (by decide) hr hd)
      obtain ⟨il, hil⟩ : ∃ il, isL M V es (rt : Int) (toDT D) = il := ⟨_, rfl⟩
      have HIL := Lib.hid hil
      rw [hil, HDV.out] at HC2
      rw [HDV.out] at HMP
      rw [hm] at HFT
      have HMI := Lib.hid hmi
      have HBLL := Lib.hid hbll
      have hmk := run_make_row' (P := Try.prog) 27 3 (.int .i64 0) 8 Try.underlying27 info_int rfl .i64 .i64 n (by omega) (by omega)
      clear hm hml hmi hbl hbll hil d0 d1
      refine (HC2.out _ (HF.out.trans HF2.out)).mono ?_
      rintro x wy ⟨rfl, hb⟩
      have HFY := Lib.hid (HF2.out.trans (show Fut wz wy from hb))
      clear hb HC2
      cases il with
      | false =>
        go_wp2_with fail
        refine (awake_any _).mono ?_
        rintro x w3 ⟨rfl, hb⟩
        have HF3 := Lib.hid (HFY.out.trans (show Fut wy w3 from hb))
        clear hb
        go_wp2_with fail
        go_ret
        exact ⟨rfl, HF.out.trans HF3.out⟩
      | true =>
        obtain ⟨l1, l2, l3⟩ := isL_parts HIL.out
        have HRR := Lib.hid (show rchB M V es (rt : Int) rt = true from by
          have h1 := rchB_root (N := M) (V := V) (es := es) (r := (rt : Int)) (by omega) (by omega)
          rwa [Int.toNat_natCast] at h1)
        obtain ⟨d', p1, p2⟩ := back_forest (EEs_ok HVD.out) HSO.out HSZ.out (toDT D) rt HRR.out l1 l2 l3
        rw [HBL.out] at p1
        have HP1 := Lib.hid p1
        have HP2 := Lib.hid p2
        have hcp := cnt_pos (EEs_ok HVD.out) HSO.out HSZ.out (toDT D) rt l1 l2 l3
        have hcr : 1 ≤ cntR M V es (rt : Int) := by unfold cntR; rw [if_pos ⟨by omega, by omega⟩, Int.toNat_natCast]; exact hcp
        generalize cntR M V es (rt : Int) = z at HCN hcr
        clear l1 l2 l3 p1 p2 hcp
        have q0 := (HB.out.fut HFY.out).cell (i := 0) rfl
        have q1 := (HB.out.fut HFY.out).cell (i := 1) rfl
        go_wp2_with fail
        refine (HFT.out _ (HF.out.trans HFY.out)).mono ?_
        rintro x w3 ⟨⟨XA, Xc, GA, Gc, rfl, hre, hrf⟩, hb⟩
        have f3 := (show Fut wy w3 from hb).alloc (.cells #[.int .i64 M, .slice XA m Xc] 24)
        have HF3 := Lib.hid (HFY.out.trans f3)
        have HE3 := Lib.hid (hre.fut ((Fut.refl w3).alloc (.cells #[.int .i64 M, .slice XA m Xc] 24)))
        have HG3 := Lib.hid (hrf.fut ((Fut.refl w3).alloc (.cells #[.int .i64 M, .slice XA m Xc] 24)))
        have HBG := Lib.hid (show Blk (w3.alloc (.cells #[.int .i64 M, .slice XA m Xc] 24)) w3.heap.size 24 #[.int .i64 M, .slice XA m Xc] from heap_new' _ _ _ rfl)
        have q1 := (HB.out.fut HF3.out).cell (i := 1) rfl
        clear hb hre hrf HFT f3 q0
        go_wp2_with fail
        obtain ⟨gb, hgb⟩ : ∃ gb, gb = w3.heap.size := ⟨_, rfl⟩
        obtain ⟨wk, hwk⟩ : ∃ wk, wk = w3.alloc (.cells #[.int .i64 M, .slice XA m Xc] 24) := ⟨_, rfl⟩
        rw [← hwk] at HF3 HE3 HG3 HBG
        rw [← hgb] at HBG
        obtain ⟨bb, hbb'⟩ : ∃ bb, bb = gb + 1 := ⟨_, rfl⟩
        have hsz : wk.heap.size = bb := by rw [hwk, World.size_alloc, hbb', hgb]
        have hbb : wk.heap.size ≤ bb := by omega
        obtain ⟨wl, hwl⟩ : ∃ wl, wl = wk.alloc (.cells (madeCells #[.int .i64 0] n) 3) := ⟨_, rfl⟩
        have HFL := Lib.hid (show Fut wk wl from by rw [hwl]; exact (Fut.refl wk).alloc _)
        have HRB := Lib.hid (show RowI wl bb n (fun _ => 0) from by rw [hwl, ← hsz]; exact World.rowIs_made wk (.int .i64 0) n 3)
        simp only [← hgb, ← hbb', ← hwk, ← hwl]
        clear hgb hwk hbb' hsz hwl hmk q1
        go_loopw [11] (fun i wr => ∃ j : Nat, j ≤ n ∧ i = .int .i64 j ∧ Hid (RowI wr bb n (fun k => if k < j then -1 else 0)) ∧ Hid (Fut wk wr)) (fun i _ => n - (intOf i).toNat)
        case atStart => exact ⟨0, Nat.zero_le _, rfl, Lib.hid (HRB.out.congr' (fun k _ => (if_neg (Nat.not_lt_zero k)).symm)), HFL⟩
        case round =>
          clear HRB HFL
          obtain ⟨j, hj, rfl, HRB, HFL⟩ := hrel
          by_cases hlt : j < n
          · have g1 := World.rowIs.cell HRB.out hlt
            have g2 := World.rowIs.frozen HRB.out j
            go_wp2_with fail
            refine ⟨⟨j + 1, by omega, by go_num, Lib.hid ((HRB.out.set j (-1)).congr' (fun k _ => ?_)), Lib.hid (HFL.out.setCell (p := ⟨bb, j, none⟩) hbb _)⟩, by simp [intOf]; omega⟩
            by_cases e : k = j
            · subst e; rw [PK.upd_same, if_pos (by omega)]
            · rw [PK.upd_other _ _ _ _ e]
              by_cases e2 : k < j
              · rw [if_pos e2, if_pos (by omega)]
              · rw [if_neg e2, if_neg (by omega)]
          · have hjn : j = n := by omega
            have HRC := Lib.hid (show RowI wr bb n (fun k => (backL n (fI M V es (rt : Int)) 0).getD k 0) from HRB.out.congr' (fun k hk => by
              rw [if_pos (by omega), backL, List.getD_eq_getElem?_getD, List.getElem?_replicate, if_pos hk]; rfl))
            clear hjn HRB
            go_wp2_with fail
            obtain ⟨wo, hwo⟩ : ∃ x, x = wr := ⟨_, rfl⟩
            go_loopw [12] (fun i wr => ∃ j : Nat, j ≤ m ∧ i = .int .i64 j ∧ Hid (RowI wr bb n (fun k => (backL n (fI M V es (rt : Int)) j).getD k 0)) ∧ Hid (Fut wk wr)) (fun i _ => m - (intOf i).toNat)
            case atStart => exact ⟨0, Nat.zero_le _, rfl, HRC, HFL⟩
            case round =>
              clear HRC HFL
              obtain ⟨j, hj, rfl, HRC, HFL⟩ := hrel
              by_cases hlt : j < m
              · obtain ⟨kx, hkx⟩ := get_lt HMI.out hlt
                obtain ⟨b4, o4, rfl, hcy⟩ := HG3.out j kx hkx
                obtain ⟨x, _, hx2, _⟩ := fI_mem hkx
                have hkn : kx < n := by have := (List.getElem?_eq_some_iff.1 hx2).1; rw [HL.out] at this; exact this
                have u0 := HFL.out.cell hcy
                have g1 := World.rowIs.cell HRC.out hkn
                have g2 := World.rowIs.frozen HRC.out kx
                have hk0 : ¬ (kx : Int) < 0 := by omega
                have hk1 : ¬ (n : Int) ≤ kx := by omega
                have HKX := Lib.hid hkx
                clear hkx hcy hx2
                go_wp2_with fail
                refine ⟨⟨j + 1, by omega, by go_num, Lib.hid ((HRC.out.set kx (j : Int)).congr' (fun k hk => ?_)), Lib.hid (HFL.out.setCell (p := ⟨bb, kx, none⟩) hbb _)⟩, by simp [intOf]; omega⟩
                rw [backL, show (fI M V es (rt : Int)).getD j 0 = kx from by rw [List.getD_eq_getElem?_getD, HKX.out]; rfl]
                by_cases e : k = kx
                · subst e; rw [PK.upd_same, List.getD_eq_getElem?_getD, List.getElem?_set, if_pos rfl, if_pos (by rw [backL_len]; exact hk)]; rfl
                · rw [PK.upd_other _ _ _ _ e, List.getD_eq_getElem?_getD, List.getD_eq_getElem?_getD, List.getElem?_set, if_neg (fun h => e h.symm)]
              · have hjm : j = m := by omega
                have hrd := rd_row (f := Value.int .i64) HRC.out
                rw [range_getD _ n (backL_len _ _ _), show backL n (fI M V es (rt : Int)) j = bl from by rw [hjm, ← HBL.out, ← HMI.out, ← HL.out]] at hrd
                have HRQ := Lib.hid hrd
                have HF5 := Lib.hid (HF3.out.trans HFL.out)
                have d0 := (HD.out.fut HF5.out).cell (i := 0) rfl
                have d1 := (HD.out.fut HF5.out).cell (i := 1) rfl
                clear hjm hrd HRC
                go_wp2_with fail
                refine (HMP.out (some ⟨bb, 0, none⟩) n wr HRQ.out (HRD.out.fut (HF.out.trans HF5.out))).mono ?_
                rintro x w6 ⟨⟨dz, bz, rfl, hzf, hzt⟩, hb⟩
                cases bz with
                | false =>
                  have := (hzf rfl).1
                  rw [HP1.out] at this
                  cases this
                | true =>
                  obtain ⟨z1, z2⟩ := hzt rfl
                  have hsz2 := mapD_size bl (toDT D) _ z1
                  rw [HP1.out] at z1
                  obtain rfl := Option.some.inj z1
                  obtain ⟨dq, hdq⟩ : ∃ dq, dq = dz := ⟨_, rfl⟩
                  rw [← hdq] at z2 hsz2 HP2
                  have HRVQ := Lib.hid (fun XA Xc w' (hr : RdE w' XA (fE M V es (rt : Int))) (hd : RdD w' dq) => HRV.out dq XA Xc w' hr hd (by have := HSD.out; omega))
                  rw [HP2.out] at HRVQ
                  obtain ⟨ze, zA, zc, zk⟩ := dz
                  simp only [dv, DI.e, DI.A, DI.c, DI.k]
                  obtain ⟨zn, hzn⟩ : ∃ zn, zk.length = zn := ⟨_, rfl⟩
                  rw [hzn]
                  have HQV := Lib.hid (show dv dq = .agg #[.int .i64 ze, .slice zA zn zc] from by rw [hdq, ← hzn]; rfl)
                  rw [HQV.out] at HRVQ
                  have f6 : Fut wk (w6.alloc (.cells #[.int .i64 ze, .slice zA zn zc] 36)) := (HFL.out.trans hb).alloc _
                  have HF6 := Lib.hid (HF3.out.trans f6)
                  have HF66 := Lib.hid f6
                  have HBQ := Lib.hid (show Blk (w6.alloc (.cells #[.int .i64 ze, .slice zA zn zc] 36)) w6.heap.size 36 #[.int .i64 ze, .slice zA zn zc] from heap_new' _ _ _ rfl)
                  have HRZ := Lib.hid (z2.rd.fut ((Fut.refl w6).alloc (.cells #[.int .i64 ze, .slice zA zn zc] 36)))
                  have g0 := (HBG.out.fut f6).cell (i := 0) rfl
                  have g1 := (HBG.out.fut f6).cell (i := 1) rfl
                  have q0 := (HB.out.fut HF6.out).cell (i := 0) rfl
                  clear hb hzf hzt hdq hzn HMP d0 d1 HRV z2 hsz2 f6
                  go_wp2_with fail
                  generalize w6.alloc (.cells #[.int .i64 ze, .slice zA zn zc] 36) = w7 at *
                  refine (HVA.out XA Xc w7 (HE3.out.fut HF66.out)).mono ?_
                  rintro x w8 ⟨rfl, hb⟩
                  have f8 : Fut w7 w8 := hb
                  have HF8 := Lib.hid (HF6.out.trans f8)
                  have g0 := (HBG.out.fut (HF66.out.trans f8)).cell (i := 0) rfl
                  have g1 := (HBG.out.fut (HF66.out.trans f8)).cell (i := 1) rfl
                  have z0 := (HBQ.out.fut f8).cell (i := 0) rfl
                  have z1 := (HBQ.out.fut f8).cell (i := 1) rfl
                  clear hb HVA q0
                  go_wp2_with fail
                  refine (HRVQ.out XA Xc w8 (HE3.out.fut (HF66.out.trans f8)) (HRZ.out.fut f8)).mono ?_
                  rintro x w9 ⟨⟨a9, rfl, h9⟩, hb⟩
                  clear h9
                  obtain ⟨yc, ys⟩ := a9
                  have HF9 := Lib.hid ((HF8.out.trans (show Fut w8 w9 from hb)).alloc (.cells #[.int .i64 yc, .int .i64 ys] 46))
                  clear hb g0 g1 z0 z1 HRVQ f8
                  go_wp2_with fail
                  generalize w9.alloc (.cells #[.int .i64 yc, .int .i64 ys] 46) = wA at *
                  refine (awake_any _).mono ?_
                  rintro x wB ⟨rfl, hb⟩
                  have HFB := Lib.hid (HF9.out.trans (show Fut wA wB from hb))
                  have q0 := (HB.out.fut HFB.out).cell (i := 0) rfl
                  have q1 := (HB.out.fut HFB.out).cell (i := 1) rfl
                  clear hb
                  go_wp2_with fail
                  refine (HCN.out _ (HF.out.trans HFB.out)).mono ?_
                  rintro x wC ⟨rfl, hb⟩
                  have HFC := Lib.hid (HFB.out.trans (show Fut wB wC from hb))
                  clear hb q0 q1
                  go_wp2_with fail
                  go_ret
                  exact ⟨rfl, HF.out.trans HFC.out⟩
end Go.Proofs.Ytoiffhoiklafhaa
