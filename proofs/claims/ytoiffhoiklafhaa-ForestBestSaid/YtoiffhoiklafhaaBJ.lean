/-
  Texts joined: The reference's forest of a node, walked; Equal pairs of numbers are equal; The reference's Same, of equal hypergraphs.
-/
import Derived.Test.YtoiffhoiklafhaaBI
import Derived.Test.YtoiffhoiklafhaaBF
import Derived.ChangeKeysEq
/-
  The reference's forest of a node, walked.
-/
namespace Go.Proofs.Ytoiffhoiklafhaa
open Go.RowKit Go.Deep PK
attribute [local go_sem] Oper.lit Oper.litS fut_fut fut_drew World.cell?_alloc_some
attribute [local go_sem] fut_base_drew World.frozen?_setCell
theorem RowB.fut {w w' : World} {b n : Nat} {T : Nat → Bool} (h : RowB w b n T) (hf : Fut w w') : RowB w' b n T := h.of_block (hf.block b h.lt)
theorem rTight_res : Try.f15.results = #[.cell 4 24, .tmp 5] := by kernel_rfl
set_option maxHeartbeats 25600000 in
set_option maxRecDepth 4000 in
theorem rTight_any (N : Nat) (A : Option Addr) (n c : Nat) (es : List EI) (r : Int) (w : World) (V : Nat → VV) (hS : Sol (EEs es) V) (hl : es.length = n) (hn : n ≤ 1000) (hvd : validB N es = true) (htl : ∀ e ∈ es, e.t.length ≤ 4) (hR : RdE w A es) :
    Calls Try.prog 15 #[hv N A n c, .int .i64 r] w fun x w' => (∃ XA Xc FA Fc, x = .returned (.tuple #[hv N XA (fP N V es r).length Xc, .slice FA (fP N V es r).length Fc]) ∧ RdE w' XA (fE N V es r) ∧ Rd1 w' FA nv (fI N V es r)) ∧ Below w.heap.size w w' := by
  obtain ⟨v1, v2, v3⟩ := validB_parts hvd
  have hN2 : N ≤ 1048576 := by omega
  have HVE := Lib.hid v3
  have HL := Lib.hid hl
  have HTL := Lib.hid htl
  have HSO := Lib.hid hS
  have HSV := Lib.hid (fun w' (hf : Fut w w') => rsolve_any N A n c es w' hl (by omega) hvd (fun e he => by have := htl e he; omega) (hR.fut hf))
  have HR := Lib.hid hR
  have hmk := run_make_row' (P := Try.prog) 64 4 (.bool false) 1 Try.underlying64 info_bool rfl .i64 .i64 N (by omega) (by omega)
  clear v1 v2 v3 hl hS hR hvd htl
  obtain ⟨wb, hwb⟩ : ∃ wb, wb = (w.alloc (.cells #[.int .i64 N, .slice A n c] 24)).alloc (.cells #[.int .i64 0, .slice none 0 0] 24) := ⟨_, rfl⟩
  have HF := Lib.hid (show Fut w wb from by rw [hwb]; exact ((Fut.refl w).alloc _).alloc _)
  have HB := Lib.hid (show Blk wb w.heap.size 24 #[.int .i64 N, .slice A n c] from by rw [hwb]; (repeat (first | exact heap_new' _ _ _ (by first | rfl | (simp only [World.size_alloc])) | refine (blk_alloc_lt _ _ _ (by first | omega | (simp only [World.size_alloc]; omega))).trans ?_)))
  have HZ := Lib.hid (show Blk wb (w.heap.size + 1) 24 #[.int .i64 0, .slice none 0 0] from by rw [hwb]; (repeat (first | exact heap_new' _ _ _ (by first | rfl | (simp only [World.size_alloc])) | refine (blk_alloc_lt _ _ _ (by first | omega | (simp only [World.size_alloc]; omega))).trans ?_)))
  go_enter Try.func15, Try.ntmps15
  go_wp2_with fail
  rw [← hwb]
  clear hwb
  have q0 := HB.out.cell (i := 0) rfl
  have q1 := HB.out.cell (i := 1) rfl
  go_wp2_with fail
  refine (HSV.out _ HF.out).mono ?_
  rintro x w1 ⟨⟨V', vb, eb0, rfl, hsol, hrow, _, hvb, _⟩, hb⟩
  obtain rfl := HSO.out.unique hsol
  have HF1 := Lib.hid (show Fut wb w1 from hb)
  have HRV := Lib.hid hrow
  have HR1 := Lib.hid (HR.out.fut (HF.out.trans HF1.out))
  obtain ⟨ob, hob'⟩ : ∃ ob, ob = w1.heap.size := ⟨_, rfl⟩
  have hob : w1.heap.size ≤ ob := by omega
  obtain ⟨w2, hw2⟩ : ∃ w2, w2 = w1.alloc (.cells (madeCells #[.bool false] N) 4) := ⟨_, rfl⟩
  have HFO0 := Lib.hid (show Fut w1 w2 from by rw [hw2]; exact (Fut.refl w1).alloc _)
  have HRB0 := Lib.hid (show RowB w2 ob N (fun _ => false) from by rw [hw2, hob']; exact World.rowIs_made w1 (.bool false) N 4)
  have q0 := HF1.out.cell q0
  have q1 := HF1.out.cell q1
  have p0 := HFO0.out.cell q0
  clear hb hsol hrow HSV hvb
  have hr3 : (0 ≤ r ∧ r < N) ∨ r < 0 ∨ (0 ≤ r ∧ (N : Int) ≤ r) := by omega
  rcases hr3 with ⟨hr0, hr1⟩ | hr0 | ⟨hr0, hr1⟩
  · obtain ⟨rt, rfl⟩ : ∃ rt : Nat, r = rt := ⟨r.toNat, by omega⟩
    have hrt : rt < N := by omega
    have g5 := World.rowIs.cell HRB0.out hrt
    have g6 := World.rowIs.frozen HRB0.out rt
    rw [hw2] at g5 g6 p0
    simp only [hob'] at g5 g6
    go_wp2_with fail
    obtain ⟨w3, hw3⟩ : ∃ w3, w3 = w1.alloc (.cells ((madeCells #[.bool false] N).setIfInBounds rt (.bool true)) 4) := ⟨_, rfl⟩
    have hs3 : w2.setCell ⟨ob, rt, none⟩ (.bool true) = w3 := by rw [hw2, hob', hw3]; exact World.setCell_alloc_at _ _ _ _ _ rfl
    have HRB := Lib.hid (show RowB w3 ob N (upd (fun _ => false) rt true) from by rw [← hs3]; exact HRB0.out.set rt true)
    have HFO := Lib.hid (show Fut w1 w3 from by rw [← hs3]; exact HFO0.out.setCell (p := ⟨ob, rt, none⟩) hob _)
    clear hs3
    try simp only [← hob']
    have HSN := Lib.hid (show ∀ v, upd (fun _ => false) rt true v = true → rchB N V es (rt : Int) v = true from fun v h => by
      rcases upd_true h with rfl | h
      · exact rchB_root hr0 hr1
      · cases h)
    have HRT0 := Lib.hid (show 0 ≤ (rt : Int) → (rt : Int) < N → upd (fun _ => false) rt true (rt : Int).toNat = true from fun _ _ => by rw [Int.toNat_natCast]; exact upd_same _ _ _)
    try simp only [← hw3]
    clear hw3 hw2 hob' q0 q1 p0 g5 g6 HRB0 HFO0 hmk hr0 hr1
    clear hrt
    generalize hrr : (rt : Int) = r at *
    have HRR := Lib.hid hrr
    clear hrr
    go_loopw [9] (fun ch wr => ∃ (O : Nat → Bool) (b : Bool), ch = .bool b ∧ Hid (∀ v, O v = true → rchB N V es r v = true) ∧ Hid (0 ≤ r → r < N → O r.toNat = true) ∧ Hid (b = false → ∀ v, O v = true ↔ rchB N V es r v = true) ∧ Hid (RowB wr ob N O) ∧ Hid (Fut w1 wr)) (fun ch wr => 2 * nFw wr ob N + (match ch with | .bool true => 1 | _ => 0))
    case atStart => exact ⟨_, true, rfl, HSN, HRT0, Lib.hid (fun h => by cases h), HRB, HFO⟩
    case round =>
      clear HSN HRT0 HRB HFO
      obtain ⟨O, b, rfl, HSN, HRT0, HDN, HRB, HFO⟩ := hrel
      cases b with
      | false =>
        have HD := Lib.hid (HDN.out rfl)
        go_wp2_with fail
        obtain ⟨wl, hwl⟩ : ∃ x, x = wr := ⟨_, rfl⟩
        have HFL := Lib.hid (show Fut w1 wl from by rw [hwl]; exact HFO.out)
        have HRBL := Lib.hid (show RowB wl ob N O from by rw [hwl]; exact HRB.out)
        rw [← hwl]
        clear HFO HRB HDN hwl
        go_loopw [13, 14, 15] (fun y f i wr => ∃ (j q : Nat) (YA FA : Option Addr) (Yc Fc : Nat), j ≤ n ∧ y = .slice YA q Yc ∧ f = .slice FA q Fc ∧ i = .int .i64 j ∧ Hid (q = (fPk N V es r j).length) ∧ Hid (wr.ownsRow wl.heap.size 49 5 (.slice YA q Yc) q (((fPk N V es r j).map Prod.fst).flatMap encE)) ∧ Hid (wr.ownsRow wl.heap.size 3 1 (.slice FA q Fc) q ((fPk N V es r j).map (fun p => nv p.2))) ∧ Hid (Fut wl wr)) (fun _ _ i _ => n - (intOf i).toNat)
        case atStart => exact ⟨0, 0, none, none, 0, 0, Nat.zero_le _, rfl, rfl, rfl, Lib.hid rfl, Lib.hid (World.ownsRow_nil _ _ _ _), Lib.hid (World.ownsRow_nil _ _ _ _), Lib.hid (Fut.refl _)⟩
        case round =>
          obtain ⟨j, q, YA, FA, Yc, Fc, hj, rfl, rfl, rfl, HM, HXO, HFW, HLR⟩ := hrel
          have HFO := Lib.hid (HFL.out.trans HLR.out)
          by_cases hlt : j < n
          · obtain ⟨x, hx⟩ := get_lt HL.out (show j < n by omega)
            have hxm := List.mem_of_getElem? hx
            obtain ⟨x1, x2, x3, x4, x5⟩ := okE_parts (HVE.out x hxm)
            obtain ⟨b2, o2, rfl, hc⟩ := (HR1.out.fut HFO.out).1 j x hx
            obtain ⟨ht, htm⟩ := HR1.out.2 x hxm
            have htl := HTL.out x hxm
            obtain ⟨xh, xt, xc, xl0, xl1, xA, xk⟩ := x
            simp only at x1 x2 x3 x4 x5 htl ht htm
            obtain ⟨h9, rfl⟩ : ∃ h : Nat, xh = h := ⟨xh.toNat, by omega⟩
            have hh9 : h9 < N := by omega
            have c0 := hc 0 _ (by decide) rfl
            have c1 := hc 1 _ (by decide) rfl
            have c2 := hc 2 _ (by decide) rfl
            have c3 := hc 3 _ (by decide) rfl
            have c4 := hc 4 _ (by decide) rfl
            simp only [Nat.add_zero] at c0
            have HTI := Lib.hid (fun w' (hf : Fut w1 w') => rtight_any vb N V ⟨(h9 : Int), xt, xc, xl0, xl1, xA, xk⟩ w' (HRV.out.fut hf) (by omega) HSO.out.ok ⟨x1, x2⟩ ⟨x3, x4⟩ x5 (by simp only; omega) (ht.fut hf))
            obtain ⟨tl, htl'⟩ : ∃ tl, xt.length = tl := ⟨_, rfl⟩
            simp only [htl'] at HTI
            rw [htl'] at c1 htl htm
            have HTN := Lib.hid htl'
            have htl63 : tl ≤ 9223372036854775807 := by omega
            have HX := Lib.hid hx
            have HXM := Lib.hid hxm
            have HT := Lib.hid ht
            have HX5 := Lib.hid x5
            clear hx hxm hc ht x5 x1 x2 x3 x4 htl'
            have q1 := (HB.out.fut (HF1.out.trans HFO.out)).cell (i := 1) rfl
            have HRB := Lib.hid (RowB.fut HRBL.out HLR.out)
            have hcd := World.rowIs.cell HRB.out hh9
            obtain ⟨oh, hoh⟩ : ∃ oh, O h9 = oh := ⟨_, rfl⟩
            have HOH := Lib.hid (show rchB N V es r h9 = oh from by
              rw [← hoh, Bool.eq_iff_iff]; exact (HD.out h9).symm)
            simp only [hoh] at hcd
            clear hoh
            cases oh with
            | false =>
              have HTF := Lib.hid (show ¬ (rchB N V es r (⟨(h9 : Int), xt, xc, xl0, xl1, xA, xk⟩ : EI).h.toNat && tgt V ⟨(h9 : Int), xt, xc, xl0, xl1, xA, xk⟩) = true from by simp only [Int.toNat_natCast]; rw [HOH.out]; simp)
              go_wp2_with fail
              refine ⟨⟨j + 1, q, YA, FA, Yc, Fc, by omega, rfl, rfl, by go_num, Lib.hid ?_, Lib.hid ?_, Lib.hid ?_, HLR⟩, by simp [intOf]; omega⟩
              · rw [fPk_succ HX.out, if_neg HTF.out]; exact HM.out
              · rw [fPk_succ HX.out, if_neg HTF.out]; exact HXO.out
              · rw [fPk_succ HX.out, if_neg HTF.out]; exact HFW.out
            | true =>
              go_wp2_with fail
              refine (HTI.out _ HFO.out).mono ?_
              rintro x w9 ⟨rfl, hb9⟩
              have f9 : Fut wr w9 := hb9
              have HFO9 := Lib.hid (HFO.out.trans f9)
              have HFL9 := Lib.hid (HLR.out.trans f9)
              have HXO9 := Lib.hid (own_fut HXO.out f9)
              have HFW9 := Lib.hid (own_fut HFW.out f9)
              have q1 := f9.cell q1
              have c0 := f9.cell c0
              have c1 := f9.cell c1
              have c2 := f9.cell c2
              have c3 := f9.cell c3
              have c4 := f9.cell c4
              clear hb9 f9 hcd
              obtain ⟨tg, htg⟩ : ∃ tg, tgt V ⟨(h9 : Int), xt, xc, xl0, xl1, xA, xk⟩ = tg := ⟨_, rfl⟩
              have HTG := Lib.hid htg
              rw [htg]
              clear htg
              cases tg with
              | false =>
                have HTF := Lib.hid (show ¬ (rchB N V es r (⟨(h9 : Int), xt, xc, xl0, xl1, xA, xk⟩ : EI).h.toNat && tgt V ⟨(h9 : Int), xt, xc, xl0, xl1, xA, xk⟩) = true from by rw [HTG.out]; simp)
                go_wp2_with fail
                refine ⟨⟨j + 1, q, YA, FA, Yc, Fc, by omega, rfl, rfl, by go_num, Lib.hid ?_, Lib.hid ?_, Lib.hid ?_, HFL9⟩, by simp [intOf]; omega⟩
                · rw [fPk_succ HX.out, if_neg HTF.out]; exact HM.out
                · rw [fPk_succ HX.out, if_neg HTF.out]; exact HXO9.out
                · rw [fPk_succ HX.out, if_neg HTF.out]; exact HFW9.out
              | true =>
                have HTT := Lib.hid (show (rchB N V es r (⟨(h9 : Int), xt, xc, xl0, xl1, xA, xk⟩ : EI).h.toNat && tgt V ⟨(h9 : Int), xt, xc, xl0, xl1, xA, xk⟩) = true from by rw [HTG.out, Bool.and_true]; simp only [Int.toNat_natCast]; exact HOH.out)
                have HFE := Lib.hid (show Fut w9 (w9.alloc (.cells #[.int .i64 (h9 : Int), .slice xA tl xk, .int .i64 xc, .int .i64 xl0, .int .i64 xl1] 49)) from (Fut.refl w9).alloc _)
                have HXO1 := Lib.hid (own_fut HXO9.out HFE.out)
                have HFW1 := Lib.hid (own_fut HFW9.out HFE.out)
                have HSZ := Lib.hid (show wl.heap.size ≤ (w9.alloc (.cells #[.int .i64 (h9 : Int), .slice xA tl xk, .int .i64 xc, .int .i64 xl0, .int .i64 xl1] 49)).heap.size from (HFL9.out.trans HFE.out).size)
                go_wp2_with (first
                  | (at_builtin; refine wpList_push rfl 22 49 5 56 _ Try.underlying22 info_ee rfl (by decide) (by decide) (.tmp 111) (.tmp 117) rfl wl.heap.size (.slice YA q Yc) q _ rfl HXO1.out w9.heap.size [.int .i64 (h9 : Int), .slice xA tl xk, .int .i64 xc, .int .i64 xl0, .int .i64 xl1] rfl (heap_new' _ _ _ rfl) rfl (by simp [Value.oneCell']) (by have := HM.out; have := @fPk_len N V es r j; omega) HSZ.out ?_; intro g cap w' h1 h2 h3; have hfw := World.ownsRow.kept HFW1.out h2 (own_apart HFW1.out HXO1.out (by decide)); have hf2 : Fut wl w' := Below.grown (HFL9.out.trans HFE.out) h2 (HFL9.out.trans HFE.out).size (fun q hq => (World.ownsRow.lt HXO1.out q hq).1); have HFW2 := Lib.hid (World.ownsRow.alloc hfw (.cells #[.int .i64 (j : Int)] 3)); have HXO2 := Lib.hid (World.ownsRow.alloc h1 (.cells #[.int .i64 (j : Int)] 3)); have HF2 := Lib.hid (hf2.alloc (.cells #[.int .i64 (j : Int)] 3)); clear hfw hf2 h1 h2 h3)
                  | (at_builtin; refine wpList_push rfl 27 3 1 8 _ Try.underlying27 info_int rfl (by decide) (by decide) (.tmp 119) (.tmp 121) rfl wl.heap.size (.slice FA q Fc) q _ rfl HFW2.out w'.heap.size [.int .i64 (j : Int)] rfl (heap_new' _ _ _ rfl) rfl (by simp [Value.oneCell']) (by have := HM.out; have := @fPk_len N V es r j; omega) HF2.out.size ?_; intro g2 cap2 w8 h4 h5 h6))
                refine ⟨⟨j + 1, q + 1, some ⟨g, 0, none⟩, some ⟨g2, 0, none⟩, cap, cap2, by omega, rfl, rfl, by go_num, Lib.hid ?_, Lib.hid ?_, Lib.hid ?_, Lib.hid ?_⟩, by simp [intOf]; omega⟩
                · rw [fPk_succ HX.out, if_pos HTT.out, List.length_append, HM.out]; rfl
                · rw [fPk_succ HX.out, if_pos HTT.out, List.map_append, List.flatMap_append]
                  have hk9 := World.ownsRow.kept HXO2.out h5 (own_apart HXO2.out HFW2.out (by decide))
                  have hk8 : List.flatMap encE (List.map Prod.fst [((⟨(h9 : Int), xt, xc, xl0, xl1, xA, xk⟩ : EI), j)]) = [.int .i64 (h9 : Int), .slice xA tl xk, .int .i64 xc, .int .i64 xl0, .int .i64 xl1] := by simp [encE, HTN.out]
                  rw [hk8]
                  exact hk9
                · rw [fPk_succ HX.out, if_pos HTT.out, List.map_append]
                  exact h4
                · exact Below.grown HF2.out h5 HF2.out.size (fun q hq => (World.ownsRow.lt HFW2.out q hq).1)
          · have hjn : j = n := by omega
            have HTA := Lib.hid (show (fPk N V es r j) = fP N V es r from fPk_all (by rw [HL.out, hjn]; exact Nat.le_refl _))
            have q0 := (HB.out.fut (HF1.out.trans HFO.out)).cell (i := 0) rfl
            have q1 := (HB.out.fut (HF1.out.trans HFO.out)).cell (i := 1) rfl
            have HZ3 := Lib.hid (HZ.out.fut (HF1.out.trans HFO.out))
            have g4 := HZ3.out.cell (i := 0) rfl
            have g5 := HZ3.out.cell (i := 1) rfl
            have g2 := HZ3.out.fz 0
            have g3 := HZ3.out.fz 1
            have HW1 := Lib.hid (show w.heap.size + 2 ≤ wl.heap.size from Nat.le_trans (show w.heap.size + 2 ≤ wb.heap.size from HZ.out.lt) (HF1.out.trans HFL.out).size)
            clear hjn
            go_wp2_with fail
            refine bodyPost_ret (res_cell2 rTight_res _ _ (w.heap.size + 1) _ _ _ _ rfl ((HZ3.out.set 0 (.int .i64 (N : Int))).set 1 (.slice YA q Yc)) Try.underlying24 rfl (by kernel_rfl)) rfl ?_
            have hk : ∀ b, b ≠ w.heap.size + 1 → ((wr.setCell ⟨w.heap.size + 1, 0, none⟩ (.int .i64 (N : Int))).setCell ⟨w.heap.size + 1, 1, none⟩ (.slice YA q Yc)).heap[b]? = wr.heap[b]? := fun b h => (blk_setCell_other _ _ _ _ h).trans (blk_setCell_other _ _ _ _ h)
            have hfz : Fut w ((wr.setCell ⟨w.heap.size + 1, 0, none⟩ (.int .i64 (N : Int))).setCell ⟨w.heap.size + 1, 1, none⟩ (.slice YA q Yc)) := (((HF.out.trans HF1.out).trans HFO.out).setCell (p := ⟨w.heap.size + 1, 0, none⟩) (by simp only; omega) _).setCell (p := ⟨w.heap.size + 1, 1, none⟩) (by simp only; omega) _
            have hw1 := HW1.out
            have ho := own_keep (w' := ((wr.setCell ⟨w.heap.size + 1, 0, none⟩ (.int .i64 (N : Int))).setCell ⟨w.heap.size + 1, 1, none⟩ (.slice YA q Yc))) HXO.out (fun k hk' => hk k (by have := (World.ownsRow.lt HXO.out k hk').1; omega))
            have hp := own_keep (w' := ((wr.setCell ⟨w.heap.size + 1, 0, none⟩ (.int .i64 (N : Int))).setCell ⟨w.heap.size + 1, 1, none⟩ (.slice YA q Yc))) HFW.out (fun k hk' => hk k (by have := (World.ownsRow.lt HFW.out k hk').1; omega))
            have hm := HM.out
            rw [HTA.out] at ho hp hm
            have h8 : (fP N V es r).map (fun p => nv p.2) = (fI N V es r).map nv := by unfold fI; rw [List.map_map]; rfl
            rw [h8] at hp
            clear h8
            try (obtain rfl := HRR.out)
            refine ⟨⟨YA, Yc, FA, Fc, by rw [← hm]; rfl, ⟨RdS.of_own (enc := encE) encE_len (by decide) ho, fun e he => ?_⟩, ?_⟩, hfz⟩
            · obtain ⟨hr1, hr2⟩ := HR.out.2 e (mem_fE.1 he).1
              exact ⟨hr1.fut hfz, hr2⟩
            · exact Rd1.of_own (f := nv) hp
      | true =>
        have HMS := Lib.hid (nFw_eq HRB.out)
        go_wp2_with fail
        obtain ⟨wk, hwk⟩ : ∃ x, x = wr := ⟨_, rfl⟩
        have HRBK := Lib.hid (show RowB wk ob N O from by rw [hwk]; exact HRB.out)
        have HFOK := Lib.hid (show Fut w1 wk from by rw [hwk]; exact HFO.out)
        go_loopw [9, 10] (fun ch i wr => ∃ (j : Nat) (O2 : Nat → Bool) (b : Bool), j ≤ n ∧ i = .int .i64 j ∧ ch = .bool b ∧ Hid (RQ N V es r j O O2 b) ∧ Hid (RowB wr ob N O2) ∧ Hid (Fut w1 wr)) (fun _ i _ => n - (intOf i).toNat)
        case atStart => exact ⟨0, O, false, Nat.zero_le _, rfl, rfl, Lib.hid (RQ.start HSN.out HRT0.out), HRB, HFO⟩
        case round =>
          clear HRB HFO
          obtain ⟨j, O2, b, hj, rfl, rfl, HRQ, HRB, HFO⟩ := hrel
          by_cases hlt : j < n
          · obtain ⟨x, hx⟩ := get_lt HL.out (show j < n by omega)
            have hxm := List.mem_of_getElem? hx
            obtain ⟨x1, x2, x3, x4, x5⟩ := okE_parts (HVE.out x hxm)
            obtain ⟨b2, o2, rfl, hc⟩ := (HR1.out.fut HFO.out).1 j x hx
            obtain ⟨ht, htm⟩ := HR1.out.2 x hxm
            have htl := HTL.out x hxm
            obtain ⟨xh, xt, xc, xl0, xl1, xA, xk⟩ := x
            simp only at x1 x2 x3 x4 x5 htl ht htm
            obtain ⟨h9, rfl⟩ : ∃ h : Nat, xh = h := ⟨xh.toNat, by omega⟩
            have hh9 : h9 < N := by omega
            have c0 := hc 0 _ (by decide) rfl
            have c1 := hc 1 _ (by decide) rfl
            have c2 := hc 2 _ (by decide) rfl
            have c3 := hc 3 _ (by decide) rfl
            have c4 := hc 4 _ (by decide) rfl
            simp only [Nat.add_zero] at c0
            have HTI := Lib.hid (fun w' (hf : Fut w1 w') => rtight_any vb N V ⟨(h9 : Int), xt, xc, xl0, xl1, xA, xk⟩ w' (HRV.out.fut hf) (by omega) HSO.out.ok ⟨x1, x2⟩ ⟨x3, x4⟩ x5 (by simp only; omega) (ht.fut hf))
            obtain ⟨tl, htl'⟩ : ∃ tl, xt.length = tl := ⟨_, rfl⟩
            simp only [htl'] at HTI
            rw [htl'] at c1 htl htm
            have HTN := Lib.hid htl'
            have htl63 : tl ≤ 9223372036854775807 := by omega
            have HX := Lib.hid hx
            have HXM := Lib.hid hxm
            have HT := Lib.hid ht
            have HX5 := Lib.hid x5
            clear hx hxm hc ht x5 x1 x2 x3 x4 htl'
            obtain ⟨wo, rfl⟩ : ∃ x, x = wr := ⟨_, rfl⟩
            have q1 := (HB.out.fut (HF1.out.trans HFO.out)).cell (i := 1) rfl
            go_wp2_with fail
            obtain ⟨eb, heb⟩ : ∃ eb, eb = wo.heap.size := ⟨_, rfl⟩
            rw [← heb]
            obtain ⟨wi, hwi⟩ : ∃ wi, wi = wo.alloc (.cells #[.int .i64 (h9 : Int), .slice xA tl xk, .int .i64 xc, .int .i64 xl0, .int .i64 xl1] 49) := ⟨_, rfl⟩
            have HEB := Lib.hid (show Blk wi eb 49 #[.int .i64 (h9 : Int), .slice xA tl xk, .int .i64 xc, .int .i64 xl0, .int .i64 xl1] from by rw [hwi, heb]; exact heap_new' _ _ _ rfl)
            have HRBI := Lib.hid (show RowB wi ob N O2 from by rw [hwi]; exact RowB.fut HRB.out ((Fut.refl wo).alloc _))
            have HFOI := Lib.hid (show Fut w1 wi from by rw [hwi]; exact HFO.out.alloc _)
            have hne : eb ≠ ob := by have := World.rowIs.lt HRB.out; omega
            rw [← hwi]
            clear hwi heb HRB HFO c0 c1 c2 c3 c4 q1
            obtain ⟨HRB, rfl⟩ : ∃ h, h = HRBI := ⟨_, rfl⟩
            obtain ⟨HFO, rfl⟩ : ∃ h, h = HFOI := ⟨_, rfl⟩
            go_loopw [9, 12] (fun ch i wr => ∃ (k : Nat) (O3 : Nat → Bool) (b : Bool), k ≤ tl ∧ i = .int .i64 k ∧ ch = .bool b ∧ Hid (RQ N V es r j O O3 b) ∧ Hid (∀ t ∈ xt.take k, O3 t.toNat = true) ∧ Hid (RowB wr ob N O3) ∧ Hid (Blk wr eb 49 #[.int .i64 (h9 : Int), .slice xA tl xk, .int .i64 xc, .int .i64 xl0, .int .i64 xl1]) ∧ Hid (Fut w1 wr)) (fun _ i _ => tl - (intOf i).toNat)
            case atStart => exact ⟨0, O2, b, Nat.zero_le _, rfl, rfl, HRQ, Lib.hid (by simp), HRB, HEB, HFO⟩
            case round =>
              clear HRQ HRB HEB HFO
              obtain ⟨k, O3, b, hk, rfl, rfl, HRQ, HPR, HRB, HEB, HFO⟩ := hrel
              have y0 := HEB.out.cell (i := 0) rfl
              have y1 := HEB.out.cell (i := 1) rfl
              have y2 := HEB.out.cell (i := 2) rfl
              have y3 := HEB.out.cell (i := 3) rfl
              have y4 := HEB.out.cell (i := 4) rfl
              have hcd := World.rowIs.cell HRB.out hh9
              by_cases hkt : k < tl
              · obtain ⟨oh, hoh⟩ : ∃ oh, O3 h9 = oh := ⟨_, rfl⟩
                have HOH := Lib.hid hoh
                simp only [hoh] at hcd
                clear hoh
                cases oh with
                | false =>
                  have HNX := Lib.hid (HRQ.out.next HX.out (fun _ h8 => by simp only [Int.toNat_natCast] at h8; rw [HOH.out] at h8; cases h8))
                  go_wp2_with fail
                  exact ⟨⟨j + 1, O3, b, by omega, by go_num, rfl, HNX, HRB, HFO⟩, by simp [intOf]; omega⟩
                | true =>
                  go_wp2_with fail
                  refine (HTI.out _ HFO.out).mono ?_
                  rintro x w9 ⟨rfl, hb9⟩
                  have f9 : Fut wr w9 := hb9
                  have HFO9 := Lib.hid (HFO.out.trans f9)
                  have HRB9 := Lib.hid (RowB.fut HRB.out f9)
                  have HEB9 := Lib.hid (HEB.out.fut f9)
                  clear hb9 f9 y0 y1 y2 y3 y4 hcd HRB HEB
                  obtain ⟨tg, htg⟩ : ∃ tg, tgt V ⟨(h9 : Int), xt, xc, xl0, xl1, xA, xk⟩ = tg := ⟨_, rfl⟩
                  have HTG := Lib.hid htg
                  rw [htg]
                  clear htg
                  cases tg with
                  | false =>
                    have HNX := Lib.hid (HRQ.out.next HX.out (fun h8 => by rw [HTG.out] at h8; cases h8))
                    go_wp2_with fail
                    exact ⟨⟨j + 1, O3, b, by omega, by go_num, rfl, HNX, HRB9, HFO9⟩, by simp [intOf]; omega⟩
                  | true =>
                    obtain ⟨y, hy⟩ := get_lt HTN.out hkt
                    have hyv := HX5.out y (List.mem_of_getElem? hy)
                    have HRT := Lib.hid (rchB_step HXM.out HTG.out (show rchB N V es r (⟨(h9 : Int), xt, xc, xl0, xl1, xA, xk⟩ : EI).h.toNat = true from by simp only [Int.toNat_natCast]; exact HRQ.out.a _ HOH.out) (List.mem_of_getElem? hy))
                    obtain ⟨t, rfl⟩ : ∃ t : Nat, y = t := Int.eq_ofNat_of_zero_le hyv.1
                    have htN : t < N := by omega
                    obtain ⟨b4, o4, rfl, hcy⟩ := HT.out k _ hy
                    have u0 := HFO9.out.cell hcy
                    have y1 := HEB9.out.cell (i := 1) rfl
                    have hco := World.rowIs.cell HRB9.out htN
                    have hfo := World.rowIs.frozen HRB9.out t
                    have HTK := Lib.hid hy
                    clear hy hyv hcy
                    obtain ⟨ot, hot⟩ : ∃ ot, O3 t = ot := ⟨_, rfl⟩
                    have HOT := Lib.hid hot
                    simp only [hot] at hco
                    clear hot
                    have HPT : Hid (∀ z ∈ xt.take (k + 1), upd O3 t true z.toNat = true) := Lib.hid (fun z hz => by
                      rw [List.take_add_one, HTK.out] at hz
                      rcases List.mem_append.1 hz with hz | hz
                      · exact upd_mono (HPR.out z hz)
                      · simp only [Option.toList_some, List.mem_singleton] at hz; subst hz; rw [Int.toNat_natCast]; exact upd_same _ _ _)
                    cases ot with
                    | true =>
                      have HUI := Lib.hid (upd_id HOT.out)
                      cases b <;> (
                        go_wp2_with fail
                        refine ⟨⟨k + 1, O3, _, by omega, by go_num, rfl, HRQ, Lib.hid (fun z hz => by have := HPT.out z hz; rw [HUI.out] at this; exact this), Lib.hid ?_, Lib.hid (HEB9.out.setOther (a := ⟨ob, t, none⟩) (by simp only; omega) _), Lib.hid (HFO9.out.setCell (p := ⟨ob, t, none⟩) hob _)⟩, by simp [intOf]; omega⟩
                        have h7 := HRB9.out.set t true
                        rw [HUI.out] at h7
                        exact h7)
                    | false =>
                      have HMK := Lib.hid (HRQ.out.mark htN HOT.out HRT.out)
                      cases b <;> (
                        go_wp2_with fail
                        exact ⟨⟨k + 1, upd O3 t true, true, by omega, by go_num, rfl, HMK, HPT, Lib.hid (HRB9.out.set t true), Lib.hid (HEB9.out.setOther (a := ⟨ob, t, none⟩) (by simp only; omega) _), Lib.hid (HFO9.out.setCell (p := ⟨ob, t, none⟩) hob _)⟩, by simp [intOf]; omega⟩)
              · have HNX := Lib.hid (HRQ.out.next HX.out (fun _ _ t ht => HPR.out t (by rw [List.take_of_length_le (by rw [HTN.out]; omega)]; exact ht)))
                go_wp2_with fail
                exact ⟨⟨j + 1, O3, b, by omega, by go_num, rfl, HNX, HRB, HFO⟩, by simp [intOf]; omega⟩
          · have hjn : j = n := by omega
            have HRN := Lib.hid (show RQ N V es r es.length O O2 b from by rw [HL.out, ← hjn]; exact HRQ.out)
            have HMS2 := Lib.hid (nFw_eq HRB.out)
            have q1 := (HB.out.fut (HF1.out.trans HFO.out)).cell (i := 1) rfl
            clear hjn
            go_wp2_with fail
            refine ⟨⟨O2, b, rfl, Lib.hid HRN.out.a, Lib.hid HRN.out.d, Lib.hid (fun hb => ?_), HRB, HFO⟩, ?_⟩
            · subst hb; exact HRN.out.done
            · rw [HMS.out, HMS2.out]
              cases b with
              | false => have := HRN.out.le; simp only; omega
              | true => have := HRN.out.t rfl; simp only; omega
  · rw [hw2] at p0
    go_wp2_with fail
    simp only [← hob', ← hw2]
    have HRB := HRB0
    have HFO := HFO0
    have HSN := Lib.hid (show ∀ v, (fun _ => false : Nat → Bool) v = true → rchB N V es r v = true from fun v h => by cases h)
    have HRT0 := Lib.hid (show 0 ≤ r → r < N → (fun _ => false : Nat → Bool) r.toNat = true from fun h _ => by omega)
    clear hw2 hob' q0 q1 p0 HRB0 HFO0 hmk hr0
    go_loopw [9] (fun ch wr => ∃ (O : Nat → Bool) (b : Bool), ch = .bool b ∧ Hid (∀ v, O v = true → rchB N V es r v = true) ∧ Hid (0 ≤ r → r < N → O r.toNat = true) ∧ Hid (b = false → ∀ v, O v = true ↔ rchB N V es r v = true) ∧ Hid (RowB wr ob N O) ∧ Hid (Fut w1 wr)) (fun ch wr => 2 * nFw wr ob N + (match ch with | .bool true => 1 | _ => 0))
    case atStart => exact ⟨_, true, rfl, HSN, HRT0, Lib.hid (fun h => by cases h), HRB, HFO⟩
    case round =>
      clear HSN HRT0 HRB HFO
      obtain ⟨O, b, rfl, HSN, HRT0, HDN, HRB, HFO⟩ := hrel
      cases b with
      | false =>
        have HD := Lib.hid (HDN.out rfl)
        go_wp2_with fail
        obtain ⟨wl, hwl⟩ : ∃ x, x = wr := ⟨_, rfl⟩
        have HFL := Lib.hid (show Fut w1 wl from by rw [hwl]; exact HFO.out)
        have HRBL := Lib.hid (show RowB wl ob N O from by rw [hwl]; exact HRB.out)
        rw [← hwl]
        clear HFO HRB HDN hwl
        go_loopw [13, 14, 15] (fun y f i wr => ∃ (j q : Nat) (YA FA : Option Addr) (Yc Fc : Nat), j ≤ n ∧ y = .slice YA q Yc ∧ f = .slice FA q Fc ∧ i = .int .i64 j ∧ Hid (q = (fPk N V es r j).length) ∧ Hid (wr.ownsRow wl.heap.size 49 5 (.slice YA q Yc) q (((fPk N V es r j).map Prod.fst).flatMap encE)) ∧ Hid (wr.ownsRow wl.heap.size 3 1 (.slice FA q Fc) q ((fPk N V es r j).map (fun p => nv p.2))) ∧ Hid (Fut wl wr)) (fun _ _ i _ => n - (intOf i).toNat)
        case atStart => exact ⟨0, 0, none, none, 0, 0, Nat.zero_le _, rfl, rfl, rfl, Lib.hid rfl, Lib.hid (World.ownsRow_nil _ _ _ _), Lib.hid (World.ownsRow_nil _ _ _ _), Lib.hid (Fut.refl _)⟩
        case round =>
          obtain ⟨j, q, YA, FA, Yc, Fc, hj, rfl, rfl, rfl, HM, HXO, HFW, HLR⟩ := hrel
          have HFO := Lib.hid (HFL.out.trans HLR.out)
          by_cases hlt : j < n
          · obtain ⟨x, hx⟩ := get_lt HL.out (show j < n by omega)
            have hxm := List.mem_of_getElem? hx
            obtain ⟨x1, x2, x3, x4, x5⟩ := okE_parts (HVE.out x hxm)
            obtain ⟨b2, o2, rfl, hc⟩ := (HR1.out.fut HFO.out).1 j x hx
            obtain ⟨ht, htm⟩ := HR1.out.2 x hxm
            have htl := HTL.out x hxm
            obtain ⟨xh, xt, xc, xl0, xl1, xA, xk⟩ := x
            simp only at x1 x2 x3 x4 x5 htl ht htm
            obtain ⟨h9, rfl⟩ : ∃ h : Nat, xh = h := ⟨xh.toNat, by omega⟩
            have hh9 : h9 < N := by omega
            have c0 := hc 0 _ (by decide) rfl
            have c1 := hc 1 _ (by decide) rfl
            have c2 := hc 2 _ (by decide) rfl
            have c3 := hc 3 _ (by decide) rfl
            have c4 := hc 4 _ (by decide) rfl
            simp only [Nat.add_zero] at c0
            have HTI := Lib.hid (fun w' (hf : Fut w1 w') => rtight_any vb N V ⟨(h9 : Int), xt, xc, xl0, xl1, xA, xk⟩ w' (HRV.out.fut hf) (by omega) HSO.out.ok ⟨x1, x2⟩ ⟨x3, x4⟩ x5 (by simp only; omega) (ht.fut hf))
            obtain ⟨tl, htl'⟩ : ∃ tl, xt.length = tl := ⟨_, rfl⟩
            simp only [htl'] at HTI
            rw [htl'] at c1 htl htm
            have HTN := Lib.hid htl'
            have htl63 : tl ≤ 9223372036854775807 := by omega
            have HX := Lib.hid hx
            have HXM := Lib.hid hxm
            have HT := Lib.hid ht
            have HX5 := Lib.hid x5
            clear hx hxm hc ht x5 x1 x2 x3 x4 htl'
            have q1 := (HB.out.fut (HF1.out.trans HFO.out)).cell (i := 1) rfl
            have HRB := Lib.hid (RowB.fut HRBL.out HLR.out)
            have hcd := World.rowIs.cell HRB.out hh9
            obtain ⟨oh, hoh⟩ : ∃ oh, O h9 = oh := ⟨_, rfl⟩
            have HOH := Lib.hid (show rchB N V es r h9 = oh from by
              rw [← hoh, Bool.eq_iff_iff]; exact (HD.out h9).symm)
            simp only [hoh] at hcd
            clear hoh
            cases oh with
            | false =>
              have HTF := Lib.hid (show ¬ (rchB N V es r (⟨(h9 : Int), xt, xc, xl0, xl1, xA, xk⟩ : EI).h.toNat && tgt V ⟨(h9 : Int), xt, xc, xl0, xl1, xA, xk⟩) = true from by simp only [Int.toNat_natCast]; rw [HOH.out]; simp)
              go_wp2_with fail
              refine ⟨⟨j + 1, q, YA, FA, Yc, Fc, by omega, rfl, rfl, by go_num, Lib.hid ?_, Lib.hid ?_, Lib.hid ?_, HLR⟩, by simp [intOf]; omega⟩
              · rw [fPk_succ HX.out, if_neg HTF.out]; exact HM.out
              · rw [fPk_succ HX.out, if_neg HTF.out]; exact HXO.out
              · rw [fPk_succ HX.out, if_neg HTF.out]; exact HFW.out
            | true =>
              go_wp2_with fail
              refine (HTI.out _ HFO.out).mono ?_
              rintro x w9 ⟨rfl, hb9⟩
              have f9 : Fut wr w9 := hb9
              have HFO9 := Lib.hid (HFO.out.trans f9)
              have HFL9 := Lib.hid (HLR.out.trans f9)
              have HXO9 := Lib.hid (own_fut HXO.out f9)
              have HFW9 := Lib.hid (own_fut HFW.out f9)
              have q1 := f9.cell q1
              have c0 := f9.cell c0
              have c1 := f9.cell c1
              have c2 := f9.cell c2
              have c3 := f9.cell c3
              have c4 := f9.cell c4
              clear hb9 f9 hcd
              obtain ⟨tg, htg⟩ : ∃ tg, tgt V ⟨(h9 : Int), xt, xc, xl0, xl1, xA, xk⟩ = tg := ⟨_, rfl⟩
              have HTG := Lib.hid htg
              rw [htg]
              clear htg
              cases tg with
              | false =>
                have HTF := Lib.hid (show ¬ (rchB N V es r (⟨(h9 : Int), xt, xc, xl0, xl1, xA, xk⟩ : EI).h.toNat && tgt V ⟨(h9 : Int), xt, xc, xl0, xl1, xA, xk⟩) = true from by rw [HTG.out]; simp)
                go_wp2_with fail
                refine ⟨⟨j + 1, q, YA, FA, Yc, Fc, by omega, rfl, rfl, by go_num, Lib.hid ?_, Lib.hid ?_, Lib.hid ?_, HFL9⟩, by simp [intOf]; omega⟩
                · rw [fPk_succ HX.out, if_neg HTF.out]; exact HM.out
                · rw [fPk_succ HX.out, if_neg HTF.out]; exact HXO9.out
                · rw [fPk_succ HX.out, if_neg HTF.out]; exact HFW9.out
              | true =>
                have HTT := Lib.hid (show (rchB N V es r (⟨(h9 : Int), xt, xc, xl0, xl1, xA, xk⟩ : EI).h.toNat && tgt V ⟨(h9 : Int), xt, xc, xl0, xl1, xA, xk⟩) = true from by rw [HTG.out, Bool.and_true]; simp only [Int.toNat_natCast]; exact HOH.out)
                have HFE := Lib.hid (show Fut w9 (w9.alloc (.cells #[.int .i64 (h9 : Int), .slice xA tl xk, .int .i64 xc, .int .i64 xl0, .int .i64 xl1] 49)) from (Fut.refl w9).alloc _)
                have HXO1 := Lib.hid (own_fut HXO9.out HFE.out)
                have HFW1 := Lib.hid (own_fut HFW9.out HFE.out)
                have HSZ := Lib.hid (show wl.heap.size ≤ (w9.alloc (.cells #[.int .i64 (h9 : Int), .slice xA tl xk, .int .i64 xc, .int .i64 xl0, .int .i64 xl1] 49)).heap.size from (HFL9.out.trans HFE.out).size)
                go_wp2_with (first
                  | (at_builtin; refine wpList_push rfl 22 49 5 56 _ Try.underlying22 info_ee rfl (by decide) (by decide) (.tmp 111) (.tmp 117) rfl wl.heap.size (.slice YA q Yc) q _ rfl HXO1.out w9.heap.size [.int .i64 (h9 : Int), .slice xA tl xk, .int .i64 xc, .int .i64 xl0, .int .i64 xl1] rfl (heap_new' _ _ _ rfl) rfl (by simp [Value.oneCell']) (by have := HM.out; have := @fPk_len N V es r j; omega) HSZ.out ?_; intro g cap w' h1 h2 h3; have hfw := World.ownsRow.kept HFW1.out h2 (own_apart HFW1.out HXO1.out (by decide)); have hf2 : Fut wl w' := Below.grown (HFL9.out.trans HFE.out) h2 (HFL9.out.trans HFE.out).size (fun q hq => (World.ownsRow.lt HXO1.out q hq).1); have HFW2 := Lib.hid (World.ownsRow.alloc hfw (.cells #[.int .i64 (j : Int)] 3)); have HXO2 := Lib.hid (World.ownsRow.alloc h1 (.cells #[.int .i64 (j : Int)] 3)); have HF2 := Lib.hid (hf2.alloc (.cells #[.int .i64 (j : Int)] 3)); clear hfw hf2 h1 h2 h3)
                  | (at_builtin; refine wpList_push rfl 27 3 1 8 _ Try.underlying27 info_int rfl (by decide) (by decide) (.tmp 119) (.tmp 121) rfl wl.heap.size (.slice FA q Fc) q _ rfl HFW2.out w'.heap.size [.int .i64 (j : Int)] rfl (heap_new' _ _ _ rfl) rfl (by simp [Value.oneCell']) (by have := HM.out; have := @fPk_len N V es r j; omega) HF2.out.size ?_; intro g2 cap2 w8 h4 h5 h6))
                refine ⟨⟨j + 1, q + 1, some ⟨g, 0, none⟩, some ⟨g2, 0, none⟩, cap, cap2, by omega, rfl, rfl, by go_num, Lib.hid ?_, Lib.hid ?_, Lib.hid ?_, Lib.hid ?_⟩, by simp [intOf]; omega⟩
                · rw [fPk_succ HX.out, if_pos HTT.out, List.length_append, HM.out]; rfl
                · rw [fPk_succ HX.out, if_pos HTT.out, List.map_append, List.flatMap_append]
                  have hk9 := World.ownsRow.kept HXO2.out h5 (own_apart HXO2.out HFW2.out (by decide))
                  have hk8 : List.flatMap encE (List.map Prod.fst [((⟨(h9 : Int), xt, xc, xl0, xl1, xA, xk⟩ : EI), j)]) = [.int .i64 (h9 : Int), .slice xA tl xk, .int .i64 xc, .int .i64 xl0, .int .i64 xl1] := by simp [encE, HTN.out]
                  rw [hk8]
                  exact hk9
                · rw [fPk_succ HX.out, if_pos HTT.out, List.map_append]
                  exact h4
                · exact Below.grown HF2.out h5 HF2.out.size (fun q hq => (World.ownsRow.lt HFW2.out q hq).1)
          · have hjn : j = n := by omega
            have HTA := Lib.hid (show (fPk N V es r j) = fP N V es r from fPk_all (by rw [HL.out, hjn]; exact Nat.le_refl _))
            have q0 := (HB.out.fut (HF1.out.trans HFO.out)).cell (i := 0) rfl
            have q1 := (HB.out.fut (HF1.out.trans HFO.out)).cell (i := 1) rfl
            have HZ3 := Lib.hid (HZ.out.fut (HF1.out.trans HFO.out))
            have g4 := HZ3.out.cell (i := 0) rfl
            have g5 := HZ3.out.cell (i := 1) rfl
            have g2 := HZ3.out.fz 0
            have g3 := HZ3.out.fz 1
            have HW1 := Lib.hid (show w.heap.size + 2 ≤ wl.heap.size from Nat.le_trans (show w.heap.size + 2 ≤ wb.heap.size from HZ.out.lt) (HF1.out.trans HFL.out).size)
            clear hjn
            go_wp2_with fail
            refine bodyPost_ret (res_cell2 rTight_res _ _ (w.heap.size + 1) _ _ _ _ rfl ((HZ3.out.set 0 (.int .i64 (N : Int))).set 1 (.slice YA q Yc)) Try.underlying24 rfl (by kernel_rfl)) rfl ?_
            have hk : ∀ b, b ≠ w.heap.size + 1 → ((wr.setCell ⟨w.heap.size + 1, 0, none⟩ (.int .i64 (N : Int))).setCell ⟨w.heap.size + 1, 1, none⟩ (.slice YA q Yc)).heap[b]? = wr.heap[b]? := fun b h => (blk_setCell_other _ _ _ _ h).trans (blk_setCell_other _ _ _ _ h)
            have hfz : Fut w ((wr.setCell ⟨w.heap.size + 1, 0, none⟩ (.int .i64 (N : Int))).setCell ⟨w.heap.size + 1, 1, none⟩ (.slice YA q Yc)) := (((HF.out.trans HF1.out).trans HFO.out).setCell (p := ⟨w.heap.size + 1, 0, none⟩) (by simp only; omega) _).setCell (p := ⟨w.heap.size + 1, 1, none⟩) (by simp only; omega) _
            have hw1 := HW1.out
            have ho := own_keep (w' := ((wr.setCell ⟨w.heap.size + 1, 0, none⟩ (.int .i64 (N : Int))).setCell ⟨w.heap.size + 1, 1, none⟩ (.slice YA q Yc))) HXO.out (fun k hk' => hk k (by have := (World.ownsRow.lt HXO.out k hk').1; omega))
            have hp := own_keep (w' := ((wr.setCell ⟨w.heap.size + 1, 0, none⟩ (.int .i64 (N : Int))).setCell ⟨w.heap.size + 1, 1, none⟩ (.slice YA q Yc))) HFW.out (fun k hk' => hk k (by have := (World.ownsRow.lt HFW.out k hk').1; omega))
            have hm := HM.out
            rw [HTA.out] at ho hp hm
            have h8 : (fP N V es r).map (fun p => nv p.2) = (fI N V es r).map nv := by unfold fI; rw [List.map_map]; rfl
            rw [h8] at hp
            clear h8
            try (obtain rfl := HRR.out)
            refine ⟨⟨YA, Yc, FA, Fc, by rw [← hm]; rfl, ⟨RdS.of_own (enc := encE) encE_len (by decide) ho, fun e he => ?_⟩, ?_⟩, hfz⟩
            · obtain ⟨hr1, hr2⟩ := HR.out.2 e (mem_fE.1 he).1
              exact ⟨hr1.fut hfz, hr2⟩
            · exact Rd1.of_own (f := nv) hp
      | true =>
        have HMS := Lib.hid (nFw_eq HRB.out)
        go_wp2_with fail
        obtain ⟨wk, hwk⟩ : ∃ x, x = wr := ⟨_, rfl⟩
        have HRBK := Lib.hid (show RowB wk ob N O from by rw [hwk]; exact HRB.out)
        have HFOK := Lib.hid (show Fut w1 wk from by rw [hwk]; exact HFO.out)
        go_loopw [9, 10] (fun ch i wr => ∃ (j : Nat) (O2 : Nat → Bool) (b : Bool), j ≤ n ∧ i = .int .i64 j ∧ ch = .bool b ∧ Hid (RQ N V es r j O O2 b) ∧ Hid (RowB wr ob N O2) ∧ Hid (Fut w1 wr)) (fun _ i _ => n - (intOf i).toNat)
        case atStart => exact ⟨0, O, false, Nat.zero_le _, rfl, rfl, Lib.hid (RQ.start HSN.out HRT0.out), HRB, HFO⟩
        case round =>
          clear HRB HFO
          obtain ⟨j, O2, b, hj, rfl, rfl, HRQ, HRB, HFO⟩ := hrel
          by_cases hlt : j < n
          · obtain ⟨x, hx⟩ := get_lt HL.out (show j < n by omega)
            have hxm := List.mem_of_getElem? hx
            obtain ⟨x1, x2, x3, x4, x5⟩ := okE_parts (HVE.out x hxm)
            obtain ⟨b2, o2, rfl, hc⟩ := (HR1.out.fut HFO.out).1 j x hx
            obtain ⟨ht, htm⟩ := HR1.out.2 x hxm
            have htl := HTL.out x hxm
            obtain ⟨xh, xt, xc, xl0, xl1, xA, xk⟩ := x
            simp only at x1 x2 x3 x4 x5 htl ht htm
            obtain ⟨h9, rfl⟩ : ∃ h : Nat, xh = h := ⟨xh.toNat, by omega⟩
            have hh9 : h9 < N := by omega
            have c0 := hc 0 _ (by decide) rfl
            have c1 := hc 1 _ (by decide) rfl
            have c2 := hc 2 _ (by decide) rfl
            have c3 := hc 3 _ (by decide) rfl
            have c4 := hc 4 _ (by decide) rfl
            simp only [Nat.add_zero] at c0
            have HTI := Lib.hid (fun w' (hf : Fut w1 w') => rtight_any vb N V ⟨(h9 : Int), xt, xc, xl0, xl1, xA, xk⟩ w' (HRV.out.fut hf) (by omega) HSO.out.ok ⟨x1, x2⟩ ⟨x3, x4⟩ x5 (by simp only; omega) (ht.fut hf))
            obtain ⟨tl, htl'⟩ : ∃ tl, xt.length = tl := ⟨_, rfl⟩
            simp only [htl'] at HTI
            rw [htl'] at c1 htl htm
            have HTN := Lib.hid htl'
            have htl63 : tl ≤ 9223372036854775807 := by omega
            have HX := Lib.hid hx
            have HXM := Lib.hid hxm
            have HT := Lib.hid ht
            have HX5 := Lib.hid x5
            clear hx hxm hc ht x5 x1 x2 x3 x4 htl'
            obtain ⟨wo, rfl⟩ : ∃ x, x = wr := ⟨_, rfl⟩
            have q1 := (HB.out.fut (HF1.out.trans HFO.out)).cell (i := 1) rfl
            go_wp2_with fail
            obtain ⟨eb, heb⟩ : ∃ eb, eb = wo.heap.size := ⟨_, rfl⟩
            rw [← heb]
            obtain ⟨wi, hwi⟩ : ∃ wi, wi = wo.alloc (.cells #[.int .i64 (h9 : Int), .slice xA tl xk, .int .i64 xc, .int .i64 xl0, .int .i64 xl1] 49) := ⟨_, rfl⟩
            have HEB := Lib.hid (show Blk wi eb 49 #[.int .i64 (h9 : Int), .slice xA tl xk, .int .i64 xc, .int .i64 xl0, .int .i64 xl1] from by rw [hwi, heb]; exact heap_new' _ _ _ rfl)
            have HRBI := Lib.hid (show RowB wi ob N O2 from by rw [hwi]; exact RowB.fut HRB.out ((Fut.refl wo).alloc _))
            have HFOI := Lib.hid (show Fut w1 wi from by rw [hwi]; exact HFO.out.alloc _)
            have hne : eb ≠ ob := by have := World.rowIs.lt HRB.out; omega
            rw [← hwi]
            clear hwi heb HRB HFO c0 c1 c2 c3 c4 q1
            obtain ⟨HRB, rfl⟩ : ∃ h, h = HRBI := ⟨_, rfl⟩
            obtain ⟨HFO, rfl⟩ : ∃ h, h = HFOI := ⟨_, rfl⟩
            go_loopw [9, 12] (fun ch i wr => ∃ (k : Nat) (O3 : Nat → Bool) (b : Bool), k ≤ tl ∧ i = .int .i64 k ∧ ch = .bool b ∧ Hid (RQ N V es r j O O3 b) ∧ Hid (∀ t ∈ xt.take k, O3 t.toNat = true) ∧ Hid (RowB wr ob N O3) ∧ Hid (Blk wr eb 49 #[.int .i64 (h9 : Int), .slice xA tl xk, .int .i64 xc, .int .i64 xl0, .int .i64 xl1]) ∧ Hid (Fut w1 wr)) (fun _ i _ => tl - (intOf i).toNat)
            case atStart => exact ⟨0, O2, b, Nat.zero_le _, rfl, rfl, HRQ, Lib.hid (by simp), HRB, HEB, HFO⟩
            case round =>
              clear HRQ HRB HEB HFO
              obtain ⟨k, O3, b, hk, rfl, rfl, HRQ, HPR, HRB, HEB, HFO⟩ := hrel
              have y0 := HEB.out.cell (i := 0) rfl
              have y1 := HEB.out.cell (i := 1) rfl
              have y2 := HEB.out.cell (i := 2) rfl
              have y3 := HEB.out.cell (i := 3) rfl
              have y4 := HEB.out.cell (i := 4) rfl
              have hcd := World.rowIs.cell HRB.out hh9
              by_cases hkt : k < tl
              · obtain ⟨oh, hoh⟩ : ∃ oh, O3 h9 = oh := ⟨_, rfl⟩
                have HOH := Lib.hid hoh
                simp only [hoh] at hcd
                clear hoh
                cases oh with
                | false =>
                  have HNX := Lib.hid (HRQ.out.next HX.out (fun _ h8 => by simp only [Int.toNat_natCast] at h8; rw [HOH.out] at h8; cases h8))
                  go_wp2_with fail
                  exact ⟨⟨j + 1, O3, b, by omega, by go_num, rfl, HNX, HRB, HFO⟩, by simp [intOf]; omega⟩
                | true =>
                  go_wp2_with fail
                  refine (HTI.out _ HFO.out).mono ?_
                  rintro x w9 ⟨rfl, hb9⟩
                  have f9 : Fut wr w9 := hb9
                  have HFO9 := Lib.hid (HFO.out.trans f9)
                  have HRB9 := Lib.hid (RowB.fut HRB.out f9)
                  have HEB9 := Lib.hid (HEB.out.fut f9)
                  clear hb9 f9 y0 y1 y2 y3 y4 hcd HRB HEB
                  obtain ⟨tg, htg⟩ : ∃ tg, tgt V ⟨(h9 : Int), xt, xc, xl0, xl1, xA, xk⟩ = tg := ⟨_, rfl⟩
                  have HTG := Lib.hid htg
                  rw [htg]
                  clear htg
                  cases tg with
                  | false =>
                    have HNX := Lib.hid (HRQ.out.next HX.out (fun h8 => by rw [HTG.out] at h8; cases h8))
                    go_wp2_with fail
                    exact ⟨⟨j + 1, O3, b, by omega, by go_num, rfl, HNX, HRB9, HFO9⟩, by simp [intOf]; omega⟩
                  | true =>
                    obtain ⟨y, hy⟩ := get_lt HTN.out hkt
                    have hyv := HX5.out y (List.mem_of_getElem? hy)
                    have HRT := Lib.hid (rchB_step HXM.out HTG.out (show rchB N V es r (⟨(h9 : Int), xt, xc, xl0, xl1, xA, xk⟩ : EI).h.toNat = true from by simp only [Int.toNat_natCast]; exact HRQ.out.a _ HOH.out) (List.mem_of_getElem? hy))
                    obtain ⟨t, rfl⟩ : ∃ t : Nat, y = t := Int.eq_ofNat_of_zero_le hyv.1
                    have htN : t < N := by omega
                    obtain ⟨b4, o4, rfl, hcy⟩ := HT.out k _ hy
                    have u0 := HFO9.out.cell hcy
                    have y1 := HEB9.out.cell (i := 1) rfl
                    have hco := World.rowIs.cell HRB9.out htN
                    have hfo := World.rowIs.frozen HRB9.out t
                    have HTK := Lib.hid hy
                    clear hy hyv hcy
                    obtain ⟨ot, hot⟩ : ∃ ot, O3 t = ot := ⟨_, rfl⟩
                    have HOT := Lib.hid hot
                    simp only [hot] at hco
                    clear hot
                    have HPT : Hid (∀ z ∈ xt.take (k + 1), upd O3 t true z.toNat = true) := Lib.hid (fun z hz => by
                      rw [List.take_add_one, HTK.out] at hz
                      rcases List.mem_append.1 hz with hz | hz
                      · exact upd_mono (HPR.out z hz)
                      · simp only [Option.toList_some, List.mem_singleton] at hz; subst hz; rw [Int.toNat_natCast]; exact upd_same _ _ _)
                    cases ot with
                    | true =>
                      have HUI := Lib.hid (upd_id HOT.out)
                      cases b <;> (
                        go_wp2_with fail
                        refine ⟨⟨k + 1, O3, _, by omega, by go_num, rfl, HRQ, Lib.hid (fun z hz => by have := HPT.out z hz; rw [HUI.out] at this; exact this), Lib.hid ?_, Lib.hid (HEB9.out.setOther (a := ⟨ob, t, none⟩) (by simp only; omega) _), Lib.hid (HFO9.out.setCell (p := ⟨ob, t, none⟩) hob _)⟩, by simp [intOf]; omega⟩
                        have h7 := HRB9.out.set t true
                        rw [HUI.out] at h7
                        exact h7)
                    | false =>
                      have HMK := Lib.hid (HRQ.out.mark htN HOT.out HRT.out)
                      cases b <;> (
                        go_wp2_with fail
                        exact ⟨⟨k + 1, upd O3 t true, true, by omega, by go_num, rfl, HMK, HPT, Lib.hid (HRB9.out.set t true), Lib.hid (HEB9.out.setOther (a := ⟨ob, t, none⟩) (by simp only; omega) _), Lib.hid (HFO9.out.setCell (p := ⟨ob, t, none⟩) hob _)⟩, by simp [intOf]; omega⟩)
              · have HNX := Lib.hid (HRQ.out.next HX.out (fun _ _ t ht => HPR.out t (by rw [List.take_of_length_le (by rw [HTN.out]; omega)]; exact ht)))
                go_wp2_with fail
                exact ⟨⟨j + 1, O3, b, by omega, by go_num, rfl, HNX, HRB, HFO⟩, by simp [intOf]; omega⟩
          · have hjn : j = n := by omega
            have HRN := Lib.hid (show RQ N V es r es.length O O2 b from by rw [HL.out, ← hjn]; exact HRQ.out)
            have HMS2 := Lib.hid (nFw_eq HRB.out)
            have q1 := (HB.out.fut (HF1.out.trans HFO.out)).cell (i := 1) rfl
            clear hjn
            go_wp2_with fail
            refine ⟨⟨O2, b, rfl, Lib.hid HRN.out.a, Lib.hid HRN.out.d, Lib.hid (fun hb => ?_), HRB, HFO⟩, ?_⟩
            · subst hb; exact HRN.out.done
            · rw [HMS.out, HMS2.out]
              cases b with
              | false => have := HRN.out.le; simp only; omega
              | true => have := HRN.out.t rfl; simp only; omega
  · rw [hw2] at p0
    go_wp2_with fail
    simp only [← hob', ← hw2]
    have HRB := HRB0
    have HFO := HFO0
    have HSN := Lib.hid (show ∀ v, (fun _ => false : Nat → Bool) v = true → rchB N V es r v = true from fun v h => by cases h)
    have HRT0 := Lib.hid (show 0 ≤ r → r < N → (fun _ => false : Nat → Bool) r.toNat = true from fun _ h => by omega)
    clear hw2 hob' q0 q1 p0 HRB0 HFO0 hmk hr0 hr1
    go_loopw [9] (fun ch wr => ∃ (O : Nat → Bool) (b : Bool), ch = .bool b ∧ Hid (∀ v, O v = true → rchB N V es r v = true) ∧ Hid (0 ≤ r → r < N → O r.toNat = true) ∧ Hid (b = false → ∀ v, O v = true ↔ rchB N V es r v = true) ∧ Hid (RowB wr ob N O) ∧ Hid (Fut w1 wr)) (fun ch wr => 2 * nFw wr ob N + (match ch with | .bool true => 1 | _ => 0))
    case atStart => exact ⟨_, true, rfl, HSN, HRT0, Lib.hid (fun h => by cases h), HRB, HFO⟩
    case round =>
      clear HSN HRT0 HRB HFO
      obtain ⟨O, b, rfl, HSN, HRT0, HDN, HRB, HFO⟩ := hrel
      cases b with
      | false =>
        have HD := Lib.hid (HDN.out rfl)
        go_wp2_with fail
        obtain ⟨wl, hwl⟩ : ∃ x, x = wr := ⟨_, rfl⟩
        have HFL := Lib.hid (show Fut w1 wl from by rw [hwl]; exact HFO.out)
        have HRBL := Lib.hid (show RowB wl ob N O from by rw [hwl]; exact HRB.out)
        rw [← hwl]
        clear HFO HRB HDN hwl
        go_loopw [13, 14, 15] (fun y f i wr => ∃ (j q : Nat) (YA FA : Option Addr) (Yc Fc : Nat), j ≤ n ∧ y = .slice YA q Yc ∧ f = .slice FA q Fc ∧ i = .int .i64 j ∧ Hid (q = (fPk N V es r j).length) ∧ Hid (wr.ownsRow wl.heap.size 49 5 (.slice YA q Yc) q (((fPk N V es r j).map Prod.fst).flatMap encE)) ∧ Hid (wr.ownsRow wl.heap.size 3 1 (.slice FA q Fc) q ((fPk N V es r j).map (fun p => nv p.2))) ∧ Hid (Fut wl wr)) (fun _ _ i _ => n - (intOf i).toNat)
        case atStart => exact ⟨0, 0, none, none, 0, 0, Nat.zero_le _, rfl, rfl, rfl, Lib.hid rfl, Lib.hid (World.ownsRow_nil _ _ _ _), Lib.hid (World.ownsRow_nil _ _ _ _), Lib.hid (Fut.refl _)⟩
        case round =>
          obtain ⟨j, q, YA, FA, Yc, Fc, hj, rfl, rfl, rfl, HM, HXO, HFW, HLR⟩ := hrel
          have HFO := Lib.hid (HFL.out.trans HLR.out)
          by_cases hlt : j < n
          · obtain ⟨x, hx⟩ := get_lt HL.out (show j < n by omega)
            have hxm := List.mem_of_getElem? hx
            obtain ⟨x1, x2, x3, x4, x5⟩ := okE_parts (HVE.out x hxm)
            obtain ⟨b2, o2, rfl, hc⟩ := (HR1.out.fut HFO.out).1 j x hx
            obtain ⟨ht, htm⟩ := HR1.out.2 x hxm
            have htl := HTL.out x hxm
            obtain ⟨xh, xt, xc, xl0, xl1, xA, xk⟩ := x
            simp only at x1 x2 x3 x4 x5 htl ht htm
            obtain ⟨h9, rfl⟩ : ∃ h : Nat, xh = h := ⟨xh.toNat, by omega⟩
            have hh9 : h9 < N := by omega
            have c0 := hc 0 _ (by decide) rfl
            have c1 := hc 1 _ (by decide) rfl
            have c2 := hc 2 _ (by decide) rfl
            have c3 := hc 3 _ (by decide) rfl
            have c4 := hc 4 _ (by decide) rfl
            simp only [Nat.add_zero] at c0
            have HTI := Lib.hid (fun w' (hf : Fut w1 w') => rtight_any vb N V ⟨(h9 : Int), xt, xc, xl0, xl1, xA, xk⟩ w' (HRV.out.fut hf) (by omega) HSO.out.ok ⟨x1, x2⟩ ⟨x3, x4⟩ x5 (by simp only; omega) (ht.fut hf))
            obtain ⟨tl, htl'⟩ : ∃ tl, xt.length = tl := ⟨_, rfl⟩
            simp only [htl'] at HTI
            rw [htl'] at c1 htl htm
            have HTN := Lib.hid htl'
            have htl63 : tl ≤ 9223372036854775807 := by omega
            have HX := Lib.hid hx
            have HXM := Lib.hid hxm
            have HT := Lib.hid ht
            have HX5 := Lib.hid x5
            clear hx hxm hc ht x5 x1 x2 x3 x4 htl'
            have q1 := (HB.out.fut (HF1.out.trans HFO.out)).cell (i := 1) rfl
            have HRB := Lib.hid (RowB.fut HRBL.out HLR.out)
            have hcd := World.rowIs.cell HRB.out hh9
            obtain ⟨oh, hoh⟩ : ∃ oh, O h9 = oh := ⟨_, rfl⟩
            have HOH := Lib.hid (show rchB N V es r h9 = oh from by
              rw [← hoh, Bool.eq_iff_iff]; exact (HD.out h9).symm)
            simp only [hoh] at hcd
            clear hoh
            cases oh with
            | false =>
              have HTF := Lib.hid (show ¬ (rchB N V es r (⟨(h9 : Int), xt, xc, xl0, xl1, xA, xk⟩ : EI).h.toNat && tgt V ⟨(h9 : Int), xt, xc, xl0, xl1, xA, xk⟩) = true from by simp only [Int.toNat_natCast]; rw [HOH.out]; simp)
              go_wp2_with fail
              refine ⟨⟨j + 1, q, YA, FA, Yc, Fc, by omega, rfl, rfl, by go_num, Lib.hid ?_, Lib.hid ?_, Lib.hid ?_, HLR⟩, by simp [intOf]; omega⟩
              · rw [fPk_succ HX.out, if_neg HTF.out]; exact HM.out
              · rw [fPk_succ HX.out, if_neg HTF.out]; exact HXO.out
              · rw [fPk_succ HX.out, if_neg HTF.out]; exact HFW.out
            | true =>
              go_wp2_with fail
              refine (HTI.out _ HFO.out).mono ?_
              rintro x w9 ⟨rfl, hb9⟩
              have f9 : Fut wr w9 := hb9
              have HFO9 := Lib.hid (HFO.out.trans f9)
              have HFL9 := Lib.hid (HLR.out.trans f9)
              have HXO9 := Lib.hid (own_fut HXO.out f9)
              have HFW9 := Lib.hid (own_fut HFW.out f9)
              have q1 := f9.cell q1
              have c0 := f9.cell c0
              have c1 := f9.cell c1
              have c2 := f9.cell c2
              have c3 := f9.cell c3
              have c4 := f9.cell c4
              clear hb9 f9 hcd
              obtain ⟨tg, htg⟩ : ∃ tg, tgt V ⟨(h9 : Int), xt, xc, xl0, xl1, xA, xk⟩ = tg := ⟨_, rfl⟩
              have HTG := Lib.hid htg
              rw [htg]
              clear htg
              cases tg with
              | false =>
                have HTF := Lib.hid (show ¬ (rchB N V es r (⟨(h9 : Int), xt, xc, xl0, xl1, xA, xk⟩ : EI).h.toNat && tgt V ⟨(h9 : Int), xt, xc, xl0, xl1, xA, xk⟩) = true from by rw [HTG.out]; simp)
                go_wp2_with fail
                refine ⟨⟨j + 1, q, YA, FA, Yc, Fc, by omega, rfl, rfl, by go_num, Lib.hid ?_, Lib.hid ?_, Lib.hid ?_, HFL9⟩, by simp [intOf]; omega⟩
                · rw [fPk_succ HX.out, if_neg HTF.out]; exact HM.out
                · rw [fPk_succ HX.out, if_neg HTF.out]; exact HXO9.out
                · rw [fPk_succ HX.out, if_neg HTF.out]; exact HFW9.out
              | true =>
                have HTT := Lib.hid (show (rchB N V es r (⟨(h9 : Int), xt, xc, xl0, xl1, xA, xk⟩ : EI).h.toNat && tgt V ⟨(h9 : Int), xt, xc, xl0, xl1, xA, xk⟩) = true from by rw [HTG.out, Bool.and_true]; simp only [Int.toNat_natCast]; exact HOH.out)
                have HFE := Lib.hid (show Fut w9 (w9.alloc (.cells #[.int .i64 (h9 : Int), .slice xA tl xk, .int .i64 xc, .int .i64 xl0, .int .i64 xl1] 49)) from (Fut.refl w9).alloc _)
                have HXO1 := Lib.hid (own_fut HXO9.out HFE.out)
                have HFW1 := Lib.hid (own_fut HFW9.out HFE.out)
                have HSZ := Lib.hid (show wl.heap.size ≤ (w9.alloc (.cells #[.int .i64 (h9 : Int), .slice xA tl xk, .int .i64 xc, .int .i64 xl0, .int .i64 xl1] 49)).heap.size from (HFL9.out.trans HFE.out).size)
                go_wp2_with (first
                  | (at_builtin; refine wpList_push rfl 22 49 5 56 _ Try.underlying22 info_ee rfl (by decide) (by decide) (.tmp 111) (.tmp 117) rfl wl.heap.size (.slice YA q Yc) q _ rfl HXO1.out w9.heap.size [.int .i64 (h9 : Int), .slice xA tl xk, .int .i64 xc, .int .i64 xl0, .int .i64 xl1] rfl (heap_new' _ _ _ rfl) rfl (by simp [Value.oneCell']) (by have := HM.out; have := @fPk_len N V es r j; omega) HSZ.out ?_; intro g cap w' h1 h2 h3; have hfw := World.ownsRow.kept HFW1.out h2 (own_apart HFW1.out HXO1.out (by decide)); have hf2 : Fut wl w' := Below.grown (HFL9.out.trans HFE.out) h2 (HFL9.out.trans HFE.out).size (fun q hq => (World.ownsRow.lt HXO1.out q hq).1); have HFW2 := Lib.hid (World.ownsRow.alloc hfw (.cells #[.int .i64 (j : Int)] 3)); have HXO2 := Lib.hid (World.ownsRow.alloc h1 (.cells #[.int .i64 (j : Int)] 3)); have HF2 := Lib.hid (hf2.alloc (.cells #[.int .i64 (j : Int)] 3)); clear hfw hf2 h1 h2 h3)
                  | (at_builtin; refine wpList_push rfl 27 3 1 8 _ Try.underlying27 info_int rfl (by decide) (by decide) (.tmp 119) (.tmp 121) rfl wl.heap.size (.slice FA q Fc) q _ rfl HFW2.out w'.heap.size [.int .i64 (j : Int)] rfl (heap_new' _ _ _ rfl) rfl (by simp [Value.oneCell']) (by have := HM.out; have := @fPk_len N V es r j; omega) HF2.out.size ?_; intro g2 cap2 w8 h4 h5 h6))
                refine ⟨⟨j + 1, q + 1, some ⟨g, 0, none⟩, some ⟨g2, 0, none⟩, cap, cap2, by omega, rfl, rfl, by go_num, Lib.hid ?_, Lib.hid ?_, Lib.hid ?_, Lib.hid ?_⟩, by simp [intOf]; omega⟩
                · rw [fPk_succ HX.out, if_pos HTT.out, List.length_append, HM.out]; rfl
                · rw [fPk_succ HX.out, if_pos HTT.out, List.map_append, List.flatMap_append]
                  have hk9 := World.ownsRow.kept HXO2.out h5 (own_apart HXO2.out HFW2.out (by decide))
                  have hk8 : List.flatMap encE (List.map Prod.fst [((⟨(h9 : Int), xt, xc, xl0, xl1, xA, xk⟩ : EI), j)]) = [.int .i64 (h9 : Int), .slice xA tl xk, .int .i64 xc, .int .i64 xl0, .int .i64 xl1] := by simp [encE, HTN.out]
                  rw [hk8]
                  exact hk9
                · rw [fPk_succ HX.out, if_pos HTT.out, List.map_append]
                  exact h4
                · exact Below.grown HF2.out h5 HF2.out.size (fun q hq => (World.ownsRow.lt HFW2.out q hq).1)
          · have hjn : j = n := by omega
            have HTA := Lib.hid (show (fPk N V es r j) = fP N V es r from fPk_all (by rw [HL.out, hjn]; exact Nat.le_refl _))
            have q0 := (HB.out.fut (HF1.out.trans HFO.out)).cell (i := 0) rfl
            have q1 := (HB.out.fut (HF1.out.trans HFO.out)).cell (i := 1) rfl
            have HZ3 := Lib.hid (HZ.out.fut (HF1.out.trans HFO.out))
            have g4 := HZ3.out.cell (i := 0) rfl
            have g5 := HZ3.out.cell (i := 1) rfl
            have g2 := HZ3.out.fz 0
            have g3 := HZ3.out.fz 1
            have HW1 := Lib.hid (show w.heap.size + 2 ≤ wl.heap.size from Nat.le_trans (show w.heap.size + 2 ≤ wb.heap.size from HZ.out.lt) (HF1.out.trans HFL.out).size)
            clear hjn
            go_wp2_with fail
            refine bodyPost_ret (res_cell2 rTight_res _ _ (w.heap.size + 1) _ _ _ _ rfl ((HZ3.out.set 0 (.int .i64 (N : Int))).set 1 (.slice YA q Yc)) Try.underlying24 rfl (by kernel_rfl)) rfl ?_
            have hk : ∀ b, b ≠ w.heap.size + 1 → ((wr.setCell ⟨w.heap.size + 1, 0, none⟩ (.int .i64 (N : Int))).setCell ⟨w.heap.size + 1, 1, none⟩ (.slice YA q Yc)).heap[b]? = wr.heap[b]? := fun b h => (blk_setCell_other _ _ _ _ h).trans (blk_setCell_other _ _ _ _ h)
            have hfz : Fut w ((wr.setCell ⟨w.heap.size + 1, 0, none⟩ (.int .i64 (N : Int))).setCell ⟨w.heap.size + 1, 1, none⟩ (.slice YA q Yc)) := (((HF.out.trans HF1.out).trans HFO.out).setCell (p := ⟨w.heap.size + 1, 0, none⟩) (by simp only; omega) _).setCell (p := ⟨w.heap.size + 1, 1, none⟩) (by simp only; omega) _
            have hw1 := HW1.out
            have ho := own_keep (w' := ((wr.setCell ⟨w.heap.size + 1, 0, none⟩ (.int .i64 (N : Int))).setCell ⟨w.heap.size + 1, 1, none⟩ (.slice YA q Yc))) HXO.out (fun k hk' => hk k (by have := (World.ownsRow.lt HXO.out k hk').1; omega))
            have hp := own_keep (w' := ((wr.setCell ⟨w.heap.size + 1, 0, none⟩ (.int .i64 (N : Int))).setCell ⟨w.heap.size + 1, 1, none⟩ (.slice YA q Yc))) HFW.out (fun k hk' => hk k (by have := (World.ownsRow.lt HFW.out k hk').1; omega))
            have hm := HM.out
            rw [HTA.out] at ho hp hm
            have h8 : (fP N V es r).map (fun p => nv p.2) = (fI N V es r).map nv := by unfold fI; rw [List.map_map]; rfl
            rw [h8] at hp
            clear h8
            try (obtain rfl := HRR.out)
            refine ⟨⟨YA, Yc, FA, Fc, by rw [← hm]; rfl, ⟨RdS.of_own (enc := encE) encE_len (by decide) ho, fun e he => ?_⟩, ?_⟩, hfz⟩
            · obtain ⟨hr1, hr2⟩ := HR.out.2 e (mem_fE.1 he).1
              exact ⟨hr1.fut hfz, hr2⟩
            · exact Rd1.of_own (f := nv) hp
      | true =>
        have HMS := Lib.hid (nFw_eq HRB.out)
        go_wp2_with fail
        obtain ⟨wk, hwk⟩ : ∃ x, x = wr := ⟨_, rfl⟩
        have HRBK := Lib.hid (show RowB wk ob N O from by rw [hwk]; exact HRB.out)
        have HFOK := Lib.hid (show Fut w1 wk from by rw [hwk]; exact HFO.out)
        go_loopw [9, 10] (fun ch i wr => ∃ (j : Nat) (O2 : Nat → Bool) (b : Bool), j ≤ n ∧ i = .int .i64 j ∧ ch = .bool b ∧ Hid (RQ N V es r j O O2 b) ∧ Hid (RowB wr ob N O2) ∧ Hid (Fut w1 wr)) (fun _ i _ => n - (intOf i).toNat)
        case atStart => exact ⟨0, O, false, Nat.zero_le _, rfl, rfl, Lib.hid (RQ.start HSN.out HRT0.out), HRB, HFO⟩
        case round =>
          clear HRB HFO
          obtain ⟨j, O2, b, hj, rfl, rfl, HRQ, HRB, HFO⟩ := hrel
          by_cases hlt : j < n
          · obtain ⟨x, hx⟩ := get_lt HL.out (show j < n by omega)
            have hxm := List.mem_of_getElem? hx
            obtain ⟨x1, x2, x3, x4, x5⟩ := okE_parts (HVE.out x hxm)
            obtain ⟨b2, o2, rfl, hc⟩ := (HR1.out.fut HFO.out).1 j x hx
            obtain ⟨ht, htm⟩ := HR1.out.2 x hxm
            have htl := HTL.out x hxm
            obtain ⟨xh, xt, xc, xl0, xl1, xA, xk⟩ := x
            simp only at x1 x2 x3 x4 x5 htl ht htm
            obtain ⟨h9, rfl⟩ : ∃ h : Nat, xh = h := ⟨xh.toNat, by omega⟩
            have hh9 : h9 < N := by omega
            have c0 := hc 0 _ (by decide) rfl
            have c1 := hc 1 _ (by decide) rfl
            have c2 := hc 2 _ (by decide) rfl
            have c3 := hc 3 _ (by decide) rfl
            have c4 := hc 4 _ (by decide) rfl
            simp only [Nat.add_zero] at c0
            have HTI := Lib.hid (fun w' (hf : Fut w1 w') => rtight_any vb N V ⟨(h9 : Int), xt, xc, xl0, xl1, xA, xk⟩ w' (HRV.out.fut hf) (by omega) HSO.out.ok ⟨x1, x2⟩ ⟨x3, x4⟩ x5 (by simp only; omega) (ht.fut hf))
            obtain ⟨tl, htl'⟩ : ∃ tl, xt.length = tl := ⟨_, rfl⟩
            simp only [htl'] at HTI
            rw [htl'] at c1 htl htm
            have HTN := Lib.hid htl'
            have htl63 : tl ≤ 9223372036854775807 := by omega
            have HX := Lib.hid hx
            have HXM := Lib.hid hxm
            have HT := Lib.hid ht
            have HX5 := Lib.hid x5
            clear hx hxm hc ht x5 x1 x2 x3 x4 htl'
            obtain ⟨wo, rfl⟩ : ∃ x, x = wr := ⟨_, rfl⟩
            have q1 := (HB.out.fut (HF1.out.trans HFO.out)).cell (i := 1) rfl
            go_wp2_with fail
            obtain ⟨eb, heb⟩ : ∃ eb, eb = wo.heap.size := ⟨_, rfl⟩
            rw [← heb]
            obtain ⟨wi, hwi⟩ : ∃ wi, wi = wo.alloc (.cells #[.int .i64 (h9 : Int), .slice xA tl xk, .int .i64 xc, .int .i64 xl0, .int .i64 xl1] 49) := ⟨_, rfl⟩
            have HEB := Lib.hid (show Blk wi eb 49 #[.int .i64 (h9 : Int), .slice xA tl xk, .int .i64 xc, .int .i64 xl0, .int .i64 xl1] from by rw [hwi, heb]; exact heap_new' _ _ _ rfl)
            have HRBI := Lib.hid (show RowB wi ob N O2 from by rw [hwi]; exact RowB.fut HRB.out ((Fut.refl wo).alloc _))
            have HFOI := Lib.hid (show Fut w1 wi from by rw [hwi]; exact HFO.out.alloc _)
            have hne : eb ≠ ob := by have := World.rowIs.lt HRB.out; omega
            rw [← hwi]
            clear hwi heb HRB HFO c0 c1 c2 c3 c4 q1
            obtain ⟨HRB, rfl⟩ : ∃ h, h = HRBI := ⟨_, rfl⟩
            obtain ⟨HFO, rfl⟩ : ∃ h, h = HFOI := ⟨_, rfl⟩
            go_loopw [9, 12] (fun ch i wr => ∃ (k : Nat) (O3 : Nat → Bool) (b : Bool), k ≤ tl ∧ i = .int .i64 k ∧ ch = .bool b ∧ Hid (RQ N V es r j O O3 b) ∧ Hid (∀ t ∈ xt.take k, O3 t.toNat = true) ∧ Hid (RowB wr ob N O3) ∧ Hid (Blk wr eb 49 #[.int .i64 (h9 : Int), .slice xA tl xk, .int .i64 xc, .int .i64 xl0, .int .i64 xl1]) ∧ Hid (Fut w1 wr)) (fun _ i _ => tl - (intOf i).toNat)
            case atStart => exact ⟨0, O2, b, Nat.zero_le _, rfl, rfl, HRQ, Lib.hid (by simp), HRB, HEB, HFO⟩
            case round =>
              clear HRQ HRB HEB HFO
              obtain ⟨k, O3, b, hk, rfl, rfl, HRQ, HPR, HRB, HEB, HFO⟩ := hrel
              have y0 := HEB.out.cell (i := 0) rfl
              have y1 := HEB.out.cell (i := 1) rfl
              have y2 := HEB.out.cell (i := 2) rfl
              have y3 := HEB.out.cell (i := 3) rfl
              have y4 := HEB.out.cell (i := 4) rfl
              have hcd := World.rowIs.cell HRB.out hh9
              by_cases hkt : k < tl
              · obtain ⟨oh, hoh⟩ : ∃ oh, O3 h9 = oh := ⟨_, rfl⟩
                have HOH := Lib.hid hoh
                simp only [hoh] at hcd
                clear hoh
                cases oh with
                | false =>
                  have HNX := Lib.hid (HRQ.out.next HX.out (fun _ h8 => by simp only [Int.toNat_natCast] at h8; rw [HOH.out] at h8; cases h8))
                  go_wp2_with fail
                  exact ⟨⟨j + 1, O3, b, by omega, by go_num, rfl, HNX, HRB, HFO⟩, by simp [intOf]; omega⟩
                | true =>
                  go_wp2_with fail
                  refine (HTI.out _ HFO.out).mono ?_
                  rintro x w9 ⟨rfl, hb9⟩
                  have f9 : Fut wr w9 := hb9
                  have HFO9 := Lib.hid (HFO.out.trans f9)
                  have HRB9 := Lib.hid (RowB.fut HRB.out f9)
                  have HEB9 := Lib.hid (HEB.out.fut f9)
                  clear hb9 f9 y0 y1 y2 y3 y4 hcd HRB HEB
                  obtain ⟨tg, htg⟩ : ∃ tg, tgt V ⟨(h9 : Int), xt, xc, xl0, xl1, xA, xk⟩ = tg := ⟨_, rfl⟩
                  have HTG := Lib.hid htg
                  rw [htg]
                  clear htg
                  cases tg with
                  | false =>
                    have HNX := Lib.hid (HRQ.out.next HX.out (fun h8 => by rw [HTG.out] at h8; cases h8))
                    go_wp2_with fail
                    exact ⟨⟨j + 1, O3, b, by omega, by go_num, rfl, HNX, HRB9, HFO9⟩, by simp [intOf]; omega⟩
                  | true =>
                    obtain ⟨y, hy⟩ := get_lt HTN.out hkt
                    have hyv := HX5.out y (List.mem_of_getElem? hy)
                    have HRT := Lib.hid (rchB_step HXM.out HTG.out (show rchB N V es r (⟨(h9 : Int), xt, xc, xl0, xl1, xA, xk⟩ : EI).h.toNat = true from by simp only [Int.toNat_natCast]; exact HRQ.out.a _ HOH.out) (List.mem_of_getElem? hy))
                    obtain ⟨t, rfl⟩ : ∃ t : Nat, y = t := Int.eq_ofNat_of_zero_le hyv.1
                    have htN : t < N := by omega
                    obtain ⟨b4, o4, rfl, hcy⟩ := HT.out k _ hy
                    have u0 := HFO9.out.cell hcy
                    have y1 := HEB9.out.cell (i := 1) rfl
                    have hco := World.rowIs.cell HRB9.out htN
                    have hfo := World.rowIs.frozen HRB9.out t
                    have HTK := Lib.hid hy
                    clear hy hyv hcy
                    obtain ⟨ot, hot⟩ : ∃ ot, O3 t = ot := ⟨_, rfl⟩
                    have HOT := Lib.hid hot
                    simp only [hot] at hco
                    clear hot
                    have HPT : Hid (∀ z ∈ xt.take (k + 1), upd O3 t true z.toNat = true) := Lib.hid (fun z hz => by
                      rw [List.take_add_one, HTK.out] at hz
                      rcases List.mem_append.1 hz with hz | hz
                      · exact upd_mono (HPR.out z hz)
                      · simp only [Option.toList_some, List.mem_singleton] at hz; subst hz; rw [Int.toNat_natCast]; exact upd_same _ _ _)
                    cases ot with
                    | true =>
                      have HUI := Lib.hid (upd_id HOT.out)
                      cases b <;> (
                        go_wp2_with fail
                        refine ⟨⟨k + 1, O3, _, by omega, by go_num, rfl, HRQ, Lib.hid (fun z hz => by have := HPT.out z hz; rw [HUI.out] at this; exact this), Lib.hid ?_, Lib.hid (HEB9.out.setOther (a := ⟨ob, t, none⟩) (by simp only; omega) _), Lib.hid (HFO9.out.setCell (p := ⟨ob, t, none⟩) hob _)⟩, by simp [intOf]; omega⟩
                        have h7 := HRB9.out.set t true
                        rw [HUI.out] at h7
                        exact h7)
                    | false =>
                      have HMK := Lib.hid (HRQ.out.mark htN HOT.out HRT.out)
                      cases b <;> (
                        go_wp2_with fail
                        exact ⟨⟨k + 1, upd O3 t true, true, by omega, by go_num, rfl, HMK, HPT, Lib.hid (HRB9.out.set t true), Lib.hid (HEB9.out.setOther (a := ⟨ob, t, none⟩) (by simp only; omega) _), Lib.hid (HFO9.out.setCell (p := ⟨ob, t, none⟩) hob _)⟩, by simp [intOf]; omega⟩)
              · have HNX := Lib.hid (HRQ.out.next HX.out (fun _ _ t ht => HPR.out t (by rw [List.take_of_length_le (by rw [HTN.out]; omega)]; exact ht)))
                go_wp2_with fail
                exact ⟨⟨j + 1, O3, b, by omega, by go_num, rfl, HNX, HRB, HFO⟩, by simp [intOf]; omega⟩
          · have hjn : j = n := by omega
            have HRN := Lib.hid (show RQ N V es r es.length O O2 b from by rw [HL.out, ← hjn]; exact HRQ.out)
            have HMS2 := Lib.hid (nFw_eq HRB.out)
            have q1 := (HB.out.fut (HF1.out.trans HFO.out)).cell (i := 1) rfl
            clear hjn
            go_wp2_with fail
            refine ⟨⟨O2, b, rfl, Lib.hid HRN.out.a, Lib.hid HRN.out.d, Lib.hid (fun hb => ?_), HRB, HFO⟩, ?_⟩
            · subst hb; exact HRN.out.done
            · rw [HMS.out, HMS2.out]
              cases b with
              | false => have := HRN.out.le; simp only; omega
              | true => have := HRN.out.t rfl; simp only; omega
end Go.Proofs.Ytoiffhoiklafhaa
/-
  Equal pairs of numbers are equal.
-/
namespace Go.Proofs.Ytoiffhoiklafhaa
open Go.RowKit Go.Deep PK
theorem int_plain : Try.prog.plainKey 3 = true := by kernel_rfl
theorem int_cells : Try.prog.cellsOf 3 = 1 := by kernel_rfl
theorem eq_pair (a b : Int) (w : World) : (Op.equalIn 10000 47 (.agg #[.int .i64 a, .int .i64 b]) (.agg #[.int .i64 a, .int .i64 b])).run Try.prog w = .ok true w := by
  obtain ⟨i, hi⟩ : ∃ i, Try.prog.info? 3 = some i := by
    obtain ⟨i, hi, _⟩ := info_parts info_int
    exact ⟨i, hi⟩
  rw [run_equalIn_array w 9999 _ _ Try.underlying47 hi, int_cells]
  have p0 : (part 3 #[.int .i64 a, .int .i64 b] (0 * 1)).run Try.prog w = .ok (.int .i64 a) w := run_part_plain w int_plain rfl
  have p1 : (part 3 #[.int .i64 a, .int .i64 b] (1 * 1)).run Try.prog w = .ok (.int .i64 b) w := run_part_plain w int_plain rfl
  have q0 := run_equalIn_int (P := Try.prog) w 9998 3 .i64 .i64 a a Try.underlying3
  have q1 := run_equalIn_int (P := Try.prog) w 9998 3 .i64 .i64 b b Try.underlying3
  simp only [show List.range 2 = [0, 1] from rfl, Op.eqItems, Sem.run_bind, p0, p1, q0, q1, Result.andThen_ok, beq_self_eq_true, Bool.not_true, Bool.false_eq_true, if_false, Sem.run_pure]
end Go.Proofs.Ytoiffhoiklafhaa
/-
  The reference's Same, of equal hypergraphs.
-/
namespace Go.Proofs.Ytoiffhoiklafhaa
open Go.RowKit Go.Deep PK
attribute [local go_sem] Oper.lit Oper.litS fut_fut fut_drew World.cell?_alloc_some
attribute [local go_sem] fut_base_drew World.frozen?_setCell eq_pair
set_option maxHeartbeats 12800000 in
set_option maxRecDepth 4000 in
theorem same_any (N : Int) (A B : Option Addr) (n c d : Nat) (es : List EI) (w : World) (hl : es.length = n) (hn : n ≤ 1000) (htl : ∀ e ∈ es, e.t.length ≤ 4) (hR : RdE w A es) (hS : RdE w B es) :
    Calls Try.prog 16 #[hv N A n c, hv N B n d] w fun x w' => x = .returned (.bool true) ∧ Below w.heap.size w w' := by
  have HL := Lib.hid hl
  have HTL := Lib.hid htl
  obtain ⟨wb, hwb⟩ : ∃ wb, wb = (w.alloc (.cells #[.int .i64 N, .slice A n c] 24)).alloc (.cells #[.int .i64 N, .slice B n d] 24) := ⟨_, rfl⟩
  have HF := Lib.hid (show Fut w wb from by rw [hwb]; exact ((Fut.refl w).alloc _).alloc _)
  have HBA := Lib.hid (show Blk wb w.heap.size 24 #[.int .i64 N, .slice A n c] from by rw [hwb]; (repeat (first | exact heap_new' _ _ _ (by first | rfl | (simp only [World.size_alloc])) | refine (blk_alloc_lt _ _ _ (by first | omega | (simp only [World.size_alloc]; omega))).trans ?_)))
  have HBB := Lib.hid (show Blk wb (w.heap.size + 1) 24 #[.int .i64 N, .slice B n d] from by rw [hwb]; (repeat (first | exact heap_new' _ _ _ (by first | rfl | (simp only [World.size_alloc])) | refine (blk_alloc_lt _ _ _ (by first | omega | (simp only [World.size_alloc]; omega))).trans ?_)))
  have HR := Lib.hid (hR.fut HF.out)
  have HS := Lib.hid (hS.fut HF.out)
  clear hl htl hR hS
  go_enter Try.func16, Try.ntmps16
  go_wp2_with fail
  rw [← hwb]
  clear hwb
  try go_wp2_with fail
  go_loopw [5] (fun i wr => ∃ j : Nat, j ≤ n ∧ i = .int .i64 j ∧ Hid (Fut wb wr)) (fun i _ => n - (intOf i).toNat)
  case atStart => exact ⟨0, Nat.zero_le _, rfl, Lib.hid (Fut.refl _)⟩
  case round =>
    obtain ⟨j, hj, rfl, HFW⟩ := hrel
    obtain ⟨wo, rfl⟩ : ∃ x, x = wr := ⟨_, rfl⟩
    obtain ⟨wr, hwr⟩ : ∃ x, x = wo := ⟨_, rfl⟩
    rw [← hwr] at HFW ⊢
    clear hwr
    have q1 := (HBA.out.fut HFW.out).cell (i := 1) rfl
    by_cases hlt : j < n
    · obtain ⟨x, hx⟩ := get_lt HL.out (show j < n by omega)
      have hxm := List.mem_of_getElem? hx
      obtain ⟨b2, o2, rfl, hc⟩ := (HR.out.fut HFW.out).1 j x hx
      obtain ⟨b3, o3, rfl, hd⟩ := (HS.out.fut HFW.out).1 j x hx
      have hT := (HR.out.2 x hxm).1
      have htl := HTL.out x hxm
      obtain ⟨xh, xt, xc, xl0, xl1, xA, xk⟩ := x
      simp only at htl hT
      have c0 := hc 0 _ (by decide) rfl
      have c1 := hc 1 _ (by decide) rfl
      have c2 := hc 2 _ (by decide) rfl
      have c3 := hc 3 _ (by decide) rfl
      have c4 := hc 4 _ (by decide) rfl
      have d0 := hd 0 _ (by decide) rfl
      have d1 := hd 1 _ (by decide) rfl
      have d2 := hd 2 _ (by decide) rfl
      have d3 := hd 3 _ (by decide) rfl
      have d4 := hd 4 _ (by decide) rfl
      simp only [Nat.add_zero] at c0 d0
      obtain ⟨tl, htl'⟩ : ∃ tl, xt.length = tl := ⟨_, rfl⟩
      rw [htl'] at c1 d1 htl
      have HTN := Lib.hid htl'
      have HT := Lib.hid hT
      have htl63 : tl ≤ 9223372036854775807 := by omega
      clear hx hxm hc hd hT htl'
      obtain ⟨S, hS⟩ : ∃ S : Nat → Bool, S = fun k => decide (wr.heap.size ≤ k) := ⟨_, rfl⟩
      have hlow : ∀ q, q < wr.heap.size → S q = false := fun q hq => by rw [hS]; exact decide_eq_false (by omega)
      have HHI := Lib.hid (show ∀ q, wr.heap.size ≤ q → S q = true from fun q hq => by rw [hS]; exact decide_eq_true hq)
      clear hS
      have QA := HBA.out.fut HFW.out
      have QB := HBB.out.fut HFW.out
      go_wp2_with fail
      have g0 := cell_futS (QA.cell (i := 1) rfl) (hlow _ QA.lt)
      have g1 := cell_futS (QB.cell (i := 1) rfl) (hlow _ QB.lt)
      have c0 := cell_futS c0 (hlow _ (World.block_lt_of_cell? _ _ c0))
      have c1 := cell_futS c1 (hlow _ (World.block_lt_of_cell? _ _ c1))
      have c2 := cell_futS c2 (hlow _ (World.block_lt_of_cell? _ _ c2))
      have c3 := cell_futS c3 (hlow _ (World.block_lt_of_cell? _ _ c3))
      have c4 := cell_futS c4 (hlow _ (World.block_lt_of_cell? _ _ c4))
      have d0 := cell_futS d0 (hlow _ (World.block_lt_of_cell? _ _ d0))
      have d1 := cell_futS d1 (hlow _ (World.block_lt_of_cell? _ _ d1))
      have d2 := cell_futS d2 (hlow _ (World.block_lt_of_cell? _ _ d2))
      have d3 := cell_futS d3 (hlow _ (World.block_lt_of_cell? _ _ d3))
      have d4 := cell_futS d4 (hlow _ (World.block_lt_of_cell? _ _ d4))
      clear hlow QA QB q1
      refine wp_region_MG (relS S) o_emendateref32_Same_6 (by kernel_rfl) (by kernel_rfl) (by intro c a d v w h; cases d <;> exact h) ?_; unfold o_emendateref32_Same_6
      iterate 10 (refine wpS_h rfl rfl (fun K hK => ?_); go_simp; refine hK _ _ ?_; clear hK K)
      refine wpG_two' rfl rfl (fun K hK => ?_) (fun K hK => ?_)
      · go_simp
        refine hK _ _ (.inr ((relS S).of_fut ((Fut.refl _).alloc _))) ?_
        clear hK K
        refine wpG_o rfl rfl (fun K hK => ?_)
        go_simp
        refine hK _ _ (.inr ((relS S).of_fut ((Fut.refl _).alloc _))) ?_
        clear hK K
        obtain ⟨b1, hb1⟩ : ∃ b1, b1 = wr.heap.size := ⟨_, rfl⟩
        rw [← hb1]
        obtain ⟨wa, hwa⟩ : ∃ wa, wa = ((wr.alloc (.cells #[.int .i64 0, .slice none 0 0, .int .i64 0, .int .i64 0, .int .i64 0] 49)).alloc (.cells #[.int .i64 0, .slice none 0 0, .int .i64 0, .int .i64 0, .int .i64 0] 49)).drew := ⟨_, rfl⟩
        have P0 : Blk wa b1 49 #[.int .i64 0, .slice none 0 0, .int .i64 0, .int .i64 0, .int .i64 0] := by rw [hwa, hb1]; exact Blk.drew (Blk.alloc (heap_new' _ _ _ rfl) _)
        have Q0 : Blk wa (b1 + 1) 49 #[.int .i64 0, .slice none 0 0, .int .i64 0, .int .i64 0, .int .i64 0] := by rw [hwa]; exact Blk.drew (heap_new' _ _ _ (by rw [World.size_alloc, hb1]))
        have FA : Fut wr wa := by rw [hwa]; exact (((Fut.refl wr).alloc _).alloc _).drew
        have hbl : wr.heap.size ≤ b1 := by omega
        rw [← hwa]
        clear hwa hb1
        have X0 := P0
        have Y0 := Q0
        refine wpG_o rfl rfl (fun K hK => ?_)
        have z0 := X0.cell (i := 0) rfl
        have z1 := X0.cell (i := 1) rfl
        have z2 := X0.cell (i := 2) rfl
        have z3 := X0.cell (i := 3) rfl
        have z4 := X0.cell (i := 4) rfl
        have y0 := X0.fz 0
        have y1 := X0.fz 1
        have y2 := X0.fz 2
        have y3 := X0.fz 3
        have y4 := X0.fz 4
        go_simp
        refine hK _ _ (.inr ((relS S).trans ((relS S).trans ((relS S).trans ((relS S).trans (futS_set _ _ _ (HHI.out _ (by simp only; omega))) (futS_set _ _ _ (HHI.out _ (by simp only; omega)))) (futS_set _ _ _ (HHI.out _ (by simp only; omega)))) (futS_set _ _ _ (HHI.out _ (by simp only; omega)))) (futS_set _ _ _ (HHI.out _ (by simp only; omega))))) ?_
        clear hK K z0 z1 z2 z3 z4 y0 y1 y2 y3 y4
        have X1 := (((((X0.set 0 (.int .i64 xh)).set 1 (.slice xA tl xk)).set 2 (.int .i64 xc)).set 3 (.int .i64 xl0)).set 4 (.int .i64 xl1))
        have Y1 := (((((Y0.setOther (a := ⟨b1, 0, none⟩) (by simp only; omega) (.int .i64 xh)).setOther (a := ⟨b1, 1, none⟩) (by simp only; omega) (.slice xA tl xk)).setOther (a := ⟨b1, 2, none⟩) (by simp only; omega) (.int .i64 xc)).setOther (a := ⟨b1, 3, none⟩) (by simp only; omega) (.int .i64 xl0)).setOther (a := ⟨b1, 4, none⟩) (by simp only; omega) (.int .i64 xl1))
        have FB := (((((FA.setCell (p := ⟨b1, 0, none⟩) (by simp only; omega) (.int .i64 xh)).setCell (p := ⟨b1, 1, none⟩) (by simp only; omega) (.slice xA tl xk)).setCell (p := ⟨b1, 2, none⟩) (by simp only; omega) (.int .i64 xc)).setCell (p := ⟨b1, 3, none⟩) (by simp only; omega) (.int .i64 xl0)).setCell (p := ⟨b1, 4, none⟩) (by simp only; omega) (.int .i64 xl1))
        generalize (((((wa.setCell ⟨b1, 0, none⟩ (.int .i64 xh)).setCell ⟨b1, 1, none⟩ (.slice xA tl xk)).setCell ⟨b1, 2, none⟩ (.int .i64 xc)).setCell ⟨b1, 3, none⟩ (.int .i64 xl0)).setCell ⟨b1, 4, none⟩ (.int .i64 xl1)) = wc at *
        refine wpG_o rfl rfl (fun K hK => ?_)
        have z0 := Y1.cell (i := 0) rfl
        have z1 := Y1.cell (i := 1) rfl
        have z2 := Y1.cell (i := 2) rfl
        have z3 := Y1.cell (i := 3) rfl
        have z4 := Y1.cell (i := 4) rfl
        have y0 := Y1.fz 0
        have y1 := Y1.fz 1
        have y2 := Y1.fz 2
        have y3 := Y1.fz 3
        have y4 := Y1.fz 4
        go_simp
        refine hK _ _ (.inr ((relS S).trans ((relS S).trans ((relS S).trans ((relS S).trans (futS_set _ _ _ (HHI.out _ (by simp only; omega))) (futS_set _ _ _ (HHI.out _ (by simp only; omega)))) (futS_set _ _ _ (HHI.out _ (by simp only; omega)))) (futS_set _ _ _ (HHI.out _ (by simp only; omega)))) (futS_set _ _ _ (HHI.out _ (by simp only; omega))))) ?_
        clear hK K z0 z1 z2 z3 z4 y0 y1 y2 y3 y4
        have HBX := Lib.hid (show Blk _ _ 49 #[.int .i64 xh, .slice xA tl xk, .int .i64 xc, .int .i64 xl0, .int .i64 xl1] from (((((X1.setOther (a := ⟨(b1 + 1), 0, none⟩) (by simp only; omega) (.int .i64 xh)).setOther (a := ⟨(b1 + 1), 1, none⟩) (by simp only; omega) (.slice xA tl xk)).setOther (a := ⟨(b1 + 1), 2, none⟩) (by simp only; omega) (.int .i64 xc)).setOther (a := ⟨(b1 + 1), 3, none⟩) (by simp only; omega) (.int .i64 xl0)).setOther (a := ⟨(b1 + 1), 4, none⟩) (by simp only; omega) (.int .i64 xl1)))
        have HBY := Lib.hid (show Blk _ _ 49 #[.int .i64 xh, .slice xA tl xk, .int .i64 xc, .int .i64 xl0, .int .i64 xl1] from (((((Y1.set 0 (.int .i64 xh)).set 1 (.slice xA tl xk)).set 2 (.int .i64 xc)).set 3 (.int .i64 xl0)).set 4 (.int .i64 xl1)))
        have HFD := Lib.hid (((((FB.setCell (p := ⟨(b1 + 1), 0, none⟩) (by simp only; omega) (.int .i64 xh)).setCell (p := ⟨(b1 + 1), 1, none⟩) (by simp only; omega) (.slice xA tl xk)).setCell (p := ⟨(b1 + 1), 2, none⟩) (by simp only; omega) (.int .i64 xc)).setCell (p := ⟨(b1 + 1), 3, none⟩) (by simp only; omega) (.int .i64 xl0)).setCell (p := ⟨(b1 + 1), 4, none⟩) (by simp only; omega) (.int .i64 xl1))
        generalize (((((wc.setCell ⟨(b1 + 1), 0, none⟩ (.int .i64 xh)).setCell ⟨(b1 + 1), 1, none⟩ (.slice xA tl xk)).setCell ⟨(b1 + 1), 2, none⟩ (.int .i64 xc)).setCell ⟨(b1 + 1), 3, none⟩ (.int .i64 xl0)).setCell ⟨(b1 + 1), 4, none⟩ (.int .i64 xl1)) = wd at *
        obtain ⟨bx, hbx⟩ : ∃ bx, bx = b1 := ⟨_, rfl⟩
        obtain ⟨by', hby⟩ : ∃ by', by' = (b1 + 1) := ⟨_, rfl⟩
        rw [← hby] at HBY ⊢
        rw [← hbx] at HBX ⊢
        clear X0 Y0 P0 Q0 FA X1 Y1 FB hbx hby hbl
        refine wpG_nil ?_
        have x0 := HBX.out.cell (i := 0) rfl
        have x1 := HBX.out.cell (i := 1) rfl
        have x2 := HBX.out.cell (i := 2) rfl
        have x3 := HBX.out.cell (i := 3) rfl
        have x4 := HBX.out.cell (i := 4) rfl
        have u0 := HBY.out.cell (i := 0) rfl
        have u1 := HBY.out.cell (i := 1) rfl
        have u2 := HBY.out.cell (i := 2) rfl
        have u3 := HBY.out.cell (i := 3) rfl
        have u4 := HBY.out.cell (i := 4) rfl
        have HFE := Lib.hid (HFW.out.trans HFD.out)
        clear g0 g1 c0 c1 c2 c3 c4 d0 d1 d2 d3 d4 HHI HFD
        go_wp2_with fail
        clear x0 x2 x3 x4 u0 u2 u3 u4 x1 u1
        obtain ⟨we, hwe⟩ : ∃ we, we = wd := ⟨_, rfl⟩
        go_loopw [8] (fun i wr => ∃ k : Nat, k ≤ tl ∧ i = .int .i64 k ∧ Hid (Fut wd wr)) (fun i _ => tl - (intOf i).toNat)
        case atStart => exact ⟨0, Nat.zero_le _, rfl, Lib.hid (Fut.refl _)⟩
        case round =>
          obtain ⟨k, hk, rfl, HFK⟩ := hrel
          have x1 := (HBX.out.fut HFK.out).cell (i := 1) rfl
          have u1 := (HBY.out.fut HFK.out).cell (i := 1) rfl
          by_cases hkt : k < tl
          · obtain ⟨y, hy⟩ := get_lt HTN.out hkt
            obtain ⟨b4, o4, rfl, hcy⟩ := HT.out k _ hy
            have v0 := cell_fut ((HFE.out.trans HFK.out).cell hcy)
            have v1 := cell_fut x1
            have v2 := cell_fut u1
            clear hy hcy
            go_wp2_with fail
            clear x1 u1
            refine wp_region_M o_emendateref32_Same_12 (by kernel_rfl) (by kernel_rfl) (by intro c a d v w h; cases d <;> exact h) ?_; unfold o_emendateref32_Same_12
            iterate 11 (refine wpF_h rfl rfl (fun K hK => ?_); go_simp; refine hK _ _ ?_; clear hK K)
            refine wpF_nil ?_
            go_wp2_with fail
            exact ⟨⟨k + 1, by omega, by go_num, Lib.hid HFK.out.drew⟩, by simp [intOf]; omega⟩
          · go_wp2_with fail
            exact ⟨⟨j + 1, by omega, by go_num, Lib.hid (HFE.out.trans HFK.out)⟩, by simp [intOf]; omega⟩
      · go_simp
        refine hK _ _ (.inr ((relS S).of_fut ((Fut.refl _).alloc _))) ?_
        clear hK K
        refine wpG_o rfl rfl (fun K hK => ?_)
        go_simp
        refine hK _ _ (.inr ((relS S).of_fut ((Fut.refl _).alloc _))) ?_
        clear hK K
        obtain ⟨b1, hb1⟩ : ∃ b1, b1 = wr.heap.size := ⟨_, rfl⟩
        rw [← hb1]
        obtain ⟨wa, hwa⟩ : ∃ wa, wa = ((wr.alloc (.cells #[.int .i64 0, .slice none 0 0, .int .i64 0, .int .i64 0, .int .i64 0] 49)).alloc (.cells #[.int .i64 0, .slice none 0 0, .int .i64 0, .int .i64 0, .int .i64 0] 49)).drew := ⟨_, rfl⟩
        have P0 : Blk wa b1 49 #[.int .i64 0, .slice none 0 0, .int .i64 0, .int .i64 0, .int .i64 0] := by rw [hwa, hb1]; exact Blk.drew (Blk.alloc (heap_new' _ _ _ rfl) _)
        have Q0 : Blk wa (b1 + 1) 49 #[.int .i64 0, .slice none 0 0, .int .i64 0, .int .i64 0, .int .i64 0] := by rw [hwa]; exact Blk.drew (heap_new' _ _ _ (by rw [World.size_alloc, hb1]))
        have FA : Fut wr wa := by rw [hwa]; exact (((Fut.refl wr).alloc _).alloc _).drew
        have hbl : wr.heap.size ≤ b1 := by omega
        rw [← hwa]
        clear hwa hb1
        have X0 := Q0
        have Y0 := P0
        refine wpG_o rfl rfl (fun K hK => ?_)
        have z0 := X0.cell (i := 0) rfl
        have z1 := X0.cell (i := 1) rfl
        have z2 := X0.cell (i := 2) rfl
        have z3 := X0.cell (i := 3) rfl
        have z4 := X0.cell (i := 4) rfl
        have y0 := X0.fz 0
        have y1 := X0.fz 1
        have y2 := X0.fz 2
        have y3 := X0.fz 3
        have y4 := X0.fz 4
        go_simp
        refine hK _ _ (.inr ((relS S).trans ((relS S).trans ((relS S).trans ((relS S).trans (futS_set _ _ _ (HHI.out _ (by simp only; omega))) (futS_set _ _ _ (HHI.out _ (by simp only; omega)))) (futS_set _ _ _ (HHI.out _ (by simp only; omega)))) (futS_set _ _ _ (HHI.out _ (by simp only; omega)))) (futS_set _ _ _ (HHI.out _ (by simp only; omega))))) ?_
        clear hK K z0 z1 z2 z3 z4 y0 y1 y2 y3 y4
        have X1 := (((((X0.set 0 (.int .i64 xh)).set 1 (.slice xA tl xk)).set 2 (.int .i64 xc)).set 3 (.int .i64 xl0)).set 4 (.int .i64 xl1))
        have Y1 := (((((Y0.setOther (a := ⟨(b1 + 1), 0, none⟩) (by simp only; omega) (.int .i64 xh)).setOther (a := ⟨(b1 + 1), 1, none⟩) (by simp only; omega) (.slice xA tl xk)).setOther (a := ⟨(b1 + 1), 2, none⟩) (by simp only; omega) (.int .i64 xc)).setOther (a := ⟨(b1 + 1), 3, none⟩) (by simp only; omega) (.int .i64 xl0)).setOther (a := ⟨(b1 + 1), 4, none⟩) (by simp only; omega) (.int .i64 xl1))
        have FB := (((((FA.setCell (p := ⟨(b1 + 1), 0, none⟩) (by simp only; omega) (.int .i64 xh)).setCell (p := ⟨(b1 + 1), 1, none⟩) (by simp only; omega) (.slice xA tl xk)).setCell (p := ⟨(b1 + 1), 2, none⟩) (by simp only; omega) (.int .i64 xc)).setCell (p := ⟨(b1 + 1), 3, none⟩) (by simp only; omega) (.int .i64 xl0)).setCell (p := ⟨(b1 + 1), 4, none⟩) (by simp only; omega) (.int .i64 xl1))
        generalize (((((wa.setCell ⟨(b1 + 1), 0, none⟩ (.int .i64 xh)).setCell ⟨(b1 + 1), 1, none⟩ (.slice xA tl xk)).setCell ⟨(b1 + 1), 2, none⟩ (.int .i64 xc)).setCell ⟨(b1 + 1), 3, none⟩ (.int .i64 xl0)).setCell ⟨(b1 + 1), 4, none⟩ (.int .i64 xl1)) = wc at *
        refine wpG_o rfl rfl (fun K hK => ?_)
        have z0 := Y1.cell (i := 0) rfl
        have z1 := Y1.cell (i := 1) rfl
        have z2 := Y1.cell (i := 2) rfl
        have z3 := Y1.cell (i := 3) rfl
        have z4 := Y1.cell (i := 4) rfl
        have y0 := Y1.fz 0
        have y1 := Y1.fz 1
        have y2 := Y1.fz 2
        have y3 := Y1.fz 3
        have y4 := Y1.fz 4
        go_simp
        refine hK _ _ (.inr ((relS S).trans ((relS S).trans ((relS S).trans ((relS S).trans (futS_set _ _ _ (HHI.out _ (by simp only; omega))) (futS_set _ _ _ (HHI.out _ (by simp only; omega)))) (futS_set _ _ _ (HHI.out _ (by simp only; omega)))) (futS_set _ _ _ (HHI.out _ (by simp only; omega)))) (futS_set _ _ _ (HHI.out _ (by simp only; omega))))) ?_
        clear hK K z0 z1 z2 z3 z4 y0 y1 y2 y3 y4
        have HBX := Lib.hid (show Blk _ _ 49 #[.int .i64 xh, .slice xA tl xk, .int .i64 xc, .int .i64 xl0, .int .i64 xl1] from (((((X1.setOther (a := ⟨b1, 0, none⟩) (by simp only; omega) (.int .i64 xh)).setOther (a := ⟨b1, 1, none⟩) (by simp only; omega) (.slice xA tl xk)).setOther (a := ⟨b1, 2, none⟩) (by simp only; omega) (.int .i64 xc)).setOther (a := ⟨b1, 3, none⟩) (by simp only; omega) (.int .i64 xl0)).setOther (a := ⟨b1, 4, none⟩) (by simp only; omega) (.int .i64 xl1)))
        have HBY := Lib.hid (show Blk _ _ 49 #[.int .i64 xh, .slice xA tl xk, .int .i64 xc, .int .i64 xl0, .int .i64 xl1] from (((((Y1.set 0 (.int .i64 xh)).set 1 (.slice xA tl xk)).set 2 (.int .i64 xc)).set 3 (.int .i64 xl0)).set 4 (.int .i64 xl1)))
        have HFD := Lib.hid (((((FB.setCell (p := ⟨b1, 0, none⟩) (by simp only; omega) (.int .i64 xh)).setCell (p := ⟨b1, 1, none⟩) (by simp only; omega) (.slice xA tl xk)).setCell (p := ⟨b1, 2, none⟩) (by simp only; omega) (.int .i64 xc)).setCell (p := ⟨b1, 3, none⟩) (by simp only; omega) (.int .i64 xl0)).setCell (p := ⟨b1, 4, none⟩) (by simp only; omega) (.int .i64 xl1))
        generalize (((((wc.setCell ⟨b1, 0, none⟩ (.int .i64 xh)).setCell ⟨b1, 1, none⟩ (.slice xA tl xk)).setCell ⟨b1, 2, none⟩ (.int .i64 xc)).setCell ⟨b1, 3, none⟩ (.int .i64 xl0)).setCell ⟨b1, 4, none⟩ (.int .i64 xl1)) = wd at *
        obtain ⟨bx, hbx⟩ : ∃ bx, bx = (b1 + 1) := ⟨_, rfl⟩
        obtain ⟨by', hby⟩ : ∃ by', by' = b1 := ⟨_, rfl⟩
        rw [← hbx] at HBX ⊢
        rw [← hby] at HBY ⊢
        clear X0 Y0 P0 Q0 FA X1 Y1 FB hbx hby hbl
        refine wpG_nil ?_
        have x0 := HBX.out.cell (i := 0) rfl
        have x1 := HBX.out.cell (i := 1) rfl
        have x2 := HBX.out.cell (i := 2) rfl
        have x3 := HBX.out.cell (i := 3) rfl
        have x4 := HBX.out.cell (i := 4) rfl
        have u0 := HBY.out.cell (i := 0) rfl
        have u1 := HBY.out.cell (i := 1) rfl
        have u2 := HBY.out.cell (i := 2) rfl
        have u3 := HBY.out.cell (i := 3) rfl
        have u4 := HBY.out.cell (i := 4) rfl
        have HFE := Lib.hid (HFW.out.trans HFD.out)
        clear g0 g1 c0 c1 c2 c3 c4 d0 d1 d2 d3 d4 HHI HFD
        go_wp2_with fail
        clear x0 x2 x3 x4 u0 u2 u3 u4 x1 u1
        obtain ⟨we, hwe⟩ : ∃ we, we = wd := ⟨_, rfl⟩
        go_loopw [8] (fun i wr => ∃ k : Nat, k ≤ tl ∧ i = .int .i64 k ∧ Hid (Fut wd wr)) (fun i _ => tl - (intOf i).toNat)
        case atStart => exact ⟨0, Nat.zero_le _, rfl, Lib.hid (Fut.refl _)⟩
        case round =>
          obtain ⟨k, hk, rfl, HFK⟩ := hrel
          have x1 := (HBX.out.fut HFK.out).cell (i := 1) rfl
          have u1 := (HBY.out.fut HFK.out).cell (i := 1) rfl
          by_cases hkt : k < tl
          · obtain ⟨y, hy⟩ := get_lt HTN.out hkt
            obtain ⟨b4, o4, rfl, hcy⟩ := HT.out k _ hy
            have v0 := cell_fut ((HFE.out.trans HFK.out).cell hcy)
            have v1 := cell_fut x1
            have v2 := cell_fut u1
            clear hy hcy
            go_wp2_with fail
            clear x1 u1
            refine wp_region_M o_emendateref32_Same_12 (by kernel_rfl) (by kernel_rfl) (by intro c a d v w h; cases d <;> exact h) ?_; unfold o_emendateref32_Same_12
            iterate 11 (refine wpF_h rfl rfl (fun K hK => ?_); go_simp; refine hK _ _ ?_; clear hK K)
            refine wpF_nil ?_
            go_wp2_with fail
            exact ⟨⟨k + 1, by omega, by go_num, Lib.hid HFK.out.drew⟩, by simp [intOf]; omega⟩
          · go_wp2_with fail
            exact ⟨⟨j + 1, by omega, by go_num, Lib.hid (HFE.out.trans HFK.out)⟩, by simp [intOf]; omega⟩
    · go_wp2_with fail
      go_ret
      exact ⟨rfl, HF.out.trans HFW.out⟩
end Go.Proofs.Ytoiffhoiklafhaa
