/-
  The lexer: one token.
-/
import Derived.Test.YtlgpacpebjechaaGreatDoorLx1
import Derived.Test.YtlgpacpebjechaaGreatDoorBO
namespace Go.Proofs.YtlgpacpebjechaaGreatDoor
open Go.RowKit Go.Deep PLX
attribute [local go_sem] Oper.lit Oper.litS fut_fut fut_drew World.cell?_alloc_some
def DA.au (D : DA) : AU := ⟨fun q b => if 0 ≤ D.nxt q (D.cls b) then some (D.nxt q (D.cls b)).toNat else none, fun q => if 0 ≤ D.acc q then some (D.acc q).toNat else none⟩
/-- a string's bytes as numbers -/
def bl (s : ByteArray) : List Nat := s.data.toList.map (·.toNat)
theorem bl_len (s : ByteArray) : (bl s).length = s.size := by unfold bl; rw [List.length_map, Array.length_toList]; rfl
abbrev tokv (k : Int) (at_ : Nat) (s : ByteArray) (lk : Nat) : List Value := [.int .i64 k, .int .i64 at_, .string s, .int .i64 lk]
theorem one_res : Tryz.f17.results = #[.cell 6 48] := by kernel_rfl
theorem one_ret {w wx : World} {tmps : Array Value} {k a l : Int} {str : ByteArray} {v : Value} (ht : tmps.getD 6 undef = .pointer (some ⟨w.heap.size + 1, 0, none⟩)) (hB : Blk wx (w.heap.size + 1) 48 #[.int .i64 0, .int .i64 0, .string ⟨#[]⟩, .int .i64 0]) (hF : Fut w wx) (hv : v = .agg #[.int .i64 k, .int .i64 a, .string str, .int .i64 l]) :
    bodyPost Tryz.prog Tryz.f17 (fun e w' => e = .returned v ∧ Fut w w') .ret { tmps := tmps, defers := [] }
      ((((wx.setCell ⟨w.heap.size + 1, 0, none⟩ (.int .i64 k)).setCell ⟨w.heap.size + 1, 1, none⟩ (.int .i64 a)).setCell ⟨w.heap.size + 1, 2, none⟩ (.string str)).setCell ⟨w.heap.size + 1, 3, none⟩ (.int .i64 l)) := by
  subst hv
  refine bodyPost_ret (results_cell_row one_res _ _ (w.heap.size + 1) _ _ _ _ ht ((((hB.set 0 (.int .i64 k)).set 1 (.int .i64 a)).set 2 (.string str)).set 3 (.int .i64 l)) Tryz.underlying48 rfl (by kernel_rfl)) rfl ?_
  refine ⟨rfl, (((hF.setCell (p := ⟨w.heap.size + 1, 0, none⟩) ?_ _).setCell (p := ⟨w.heap.size + 1, 1, none⟩) ?_ _).setCell (p := ⟨w.heap.size + 1, 2, none⟩) ?_ _).setCell (p := ⟨w.heap.size + 1, 3, none⟩) ?_ _⟩ <;> (simp only; omega)
theorem bl_at {s : ByteArray} {i : Nat} (h : i < s.size) : (bl s)[i]? = some (s[i]'h).toNat := by
  unfold bl
  rw [List.getElem?_map, Array.getElem?_toList]
  have h' : i < s.data.size := h
  rw [Array.getElem?_eq_getElem h']
  rfl
set_option maxHeartbeats 6400000 in
theorem one_any (p : DP) (D : DA) (hD : D.OK) (s : ByteArray) (at_ : Nat) (w : World) (hs : s.size ≤ 1000000) (hat : at_ < s.size) (hR : RdA w p D) :
    Calls Tryz.prog 17 #[dval p D.n, .string s, .int .i64 at_] w fun e w' => e = .returned (.agg (tokv (scan D.au 0 ((bl s).drop at_) 0 (-1) 1).1 at_ (s.extract at_ (at_ + (scan D.au 0 ((bl s).drop at_) 0 (-1) 1).2.1)) (scan D.au 0 ((bl s).drop at_) 0 (-1) 1).2.2).toArray) ∧ Fut w w' := by
  have HR := Lib.hid hR
  have HD := Lib.hid hD
  clear hR hD
  obtain ⟨n, hn⟩ : ∃ n, D.n = n := ⟨_, rfl⟩
  have HN := Lib.hid hn
  rw [hn]
  clear hn
  go_enter Tryz.func17, Tryz.ntmps17
  go_wp2_with fail
  obtain ⟨wb, hwb⟩ : ∃ wb, wb = (((w.alloc (.cells #[.slice (some ⟨p.C, 0, none⟩) 256 p.cc, .slice (some ⟨p.N, 0, none⟩) n p.cn, .slice (some ⟨p.A, 0, none⟩) n p.ca] 30)).alloc (.cells #[.int .i64 0, .int .i64 0, .string ⟨#[]⟩, .int .i64 0] 48)).alloc (.cells #[.int .i64 (-1), .int .i64 at_, .string (s.extract at_ (at_ + 1)), .int .i64 0] 48)).alloc (.cells #[.slice (some ⟨p.C, 0, none⟩) 256 p.cc, .slice (some ⟨p.N, 0, none⟩) n p.cn, .slice (some ⟨p.A, 0, none⟩) n p.ca, .int .i64 0] 94) := ⟨_, rfl⟩
  rw [← hwb]
  have HF := Lib.hid (show Fut w wb from by rw [hwb]; exact ((((Fut.refl w).alloc _).alloc _).alloc _).alloc _)
  have HB1 := Lib.hid (show Blk wb (w.heap.size + 1) 48 #[.int .i64 0, .int .i64 0, .string ⟨#[]⟩, .int .i64 0] from by rw [hwb]; exact Blk.alloc (Blk.alloc (show Blk _ _ _ _ from heap_new' _ _ _ (by simp only [World.size_alloc])) _) _)
  have HB2 := Lib.hid (show Blk wb (w.heap.size + 1 + 1) 48 #[.int .i64 (-1), .int .i64 at_, .string (s.extract at_ (at_ + 1)), .int .i64 0] from by rw [hwb]; exact Blk.alloc (show Blk _ _ _ _ from heap_new' _ _ _ (by simp only [World.size_alloc])) _)
  have HB3 := Lib.hid (show Blk wb (w.heap.size + 1 + 1 + 1) 94 (scCells p n ((0 : Nat) : Int)) from by rw [hwb]; exact (heap_new' _ _ _ (by simp only [World.size_alloc])))
  clear hwb
  go_loopw [10] (fun i wr => ∃ (m q : Nat) (kind : Int) (z : Nat), i = .int .i64 (at_ + m) ∧ at_ + m ≤ s.size ∧ q < n ∧ Hid (scan D.au 0 ((bl s).drop at_) 0 (-1) 1 = scan D.au q ((bl s).drop (at_ + m)) m kind z) ∧ z ≤ m + 1 ∧ Blk wr (w.heap.size + 1) 48 #[.int .i64 0, .int .i64 0, .string ⟨#[]⟩, .int .i64 0] ∧
    Blk wr (w.heap.size + 1 + 1) 48 #[.int .i64 kind, .int .i64 at_, .string (s.extract at_ (at_ + z)), .int .i64 m] ∧ Blk wr (w.heap.size + 1 + 1 + 1) 94 (scCells p n q) ∧ Hid (Fut w wr)) (fun i _ => s.size - (intOf i).toNat)
  case atStart => exact ⟨0, 0, -1, 1, by simp, by omega, by have := HD.out.n; have := HN.out; omega, Lib.hid rfl, by omega, HB1.out, HB2.out, HB3.out, HF⟩
  case round =>
    obtain ⟨m, q, kind, z, rfl, hm, hq, HS, hz, hB1, hB2, hB3, HFW⟩ := hrel
    have t3 := hB2.cell (i := 3) rfl
    have z3 := hB2.fz 3
    have HW1 := Lib.hid (HFW.out.setCell (p := ⟨w.heap.size + 1 + 1, 3, none⟩) (by simp only; omega) (.int .i64 ((m : Int) + 1)))
    have hC2 : Blk (wr.setCell ⟨w.heap.size + 1 + 1, 3, none⟩ (.int .i64 ((m : Int) + 1))) (w.heap.size + 1 + 1) 48 #[.int .i64 kind, .int .i64 at_, .string (s.extract at_ (at_ + z)), .int .i64 ((m : Int) + 1)] := hB2.set 3 _
    have hC1 : Blk (wr.setCell ⟨w.heap.size + 1 + 1, 3, none⟩ (.int .i64 ((m : Int) + 1))) (w.heap.size + 1) 48 #[.int .i64 0, .int .i64 0, .string ⟨#[]⟩, .int .i64 0] := hB1.setOther (by simp only; omega) _
    have hC3 : Blk (wr.setCell ⟨w.heap.size + 1 + 1, 3, none⟩ (.int .i64 ((m : Int) + 1))) (w.heap.size + 1 + 1 + 1) 94 (scCells p n q) := hB3.setOther (by simp only; omega) _
    by_cases hend : at_ + m = s.size
    · have he : ((at_ : Int) + m = s.size) = True := eq_true (by omega)
      have c0 := hC2.cell (i := 0) rfl
      have c1 := hC2.cell (i := 1) rfl
      have c2 := hC2.cell (i := 2) rfl
      have c3 := hC2.cell (i := 3) rfl
      have d0 := hC1.cell (i := 0) rfl
      have d1 := hC1.cell (i := 1) rfl
      have d2 := hC1.cell (i := 2) rfl
      have d3 := hC1.cell (i := 3) rfl
      have f0 := hC1.fz 0
      have f1 := hC1.fz 1
      have f2 := hC1.fz 2
      have f3 := hC1.fz 3
      have HC1 := Lib.hid hC1
      clear hB1 hB2 hB3 hC1 hC2 hC3
      go_wp2_with fail
      refine one_ret rfl HC1.out HW1.out ?_
      rw [HS.out, List.drop_eq_nil_of_le (by rw [bl_len]; omega)]
      rfl
    · have he : ((at_ : Int) + m = s.size) = False := eq_false (by omega)
      have hlt : at_ + m < s.size := by omega
      have hb := bl_at hlt
      obtain ⟨b, hbb⟩ : ∃ b, (s[at_ + m]'hlt).toNat = b := ⟨_, rfl⟩
      have hb256 : b < 256 := by rw [← hbb]; exact UInt8.toNat_lt _
      rw [hbb] at hb
      have HBB := Lib.hid hb
      have HS2 := Lib.hid (show scan D.au 0 ((bl s).drop at_) 0 (-1) 1 = _ from HS.out.trans (by rw [List.drop_eq_getElem_cons (by rw [bl_len]; exact hlt), show (bl s)[at_ + m]'(by rw [bl_len]; exact hlt) = b from by have := List.getElem?_eq_getElem (l := bl s) (i := at_ + m) (by rw [bl_len]; exact hlt); rw [this] at hb; exact Option.some.inj hb, scan]))
      have hq' : q < D.n := by rw [HN.out]; exact hq
      have HST := Lib.hid (fun (wy : World) (hR : RdA wy p D) (hX : Blk wy (w.heap.size + 1 + 1 + 1) 94 (scCells p D.n q)) => step_any p D HD.out wy hR (w.heap.size + 1 + 1 + 1) q b hb256 hq' hX)
      rw [HN.out] at HST
      have HC1 := Lib.hid hC1
      have HC2 := Lib.hid hC2
      have HRW := Lib.hid (HR.out.fut HW1.out)
      have HX := Lib.hid hC3
      have HNX := Lib.hid (HD.out.nxt q (D.cls b) hq' (HD.out.cls b hb256))
      clear hB1 hB2 hB3 hC1 hC2 hC3 hb hq' HS HFW
      by_cases hpos : 0 ≤ D.nxt q (D.cls b)
      · obtain ⟨q', hq'⟩ : ∃ q' : Nat, D.nxt q (D.cls b) = q' := Int.eq_ofNat_of_zero_le hpos
        have hqn : q' < D.n := by have := HNX.out.2; omega
        have HAC := Lib.hid (fun (wy : World) (hR : RdA wy p D) (hX : Blk wy (w.heap.size + 1 + 1 + 1) 94 (scCells p D.n q')) => accepted_any p D wy hR (w.heap.size + 1 + 1 + 1) q' hqn hX)
        rw [HN.out] at HAC
        rw [hq'] at HST
        have HAU : Hid (D.au.nx q b = some q') := Lib.hid (by show (if 0 ≤ D.nxt q (D.cls b) then some (D.nxt q (D.cls b)).toNat else none) = _; rw [if_pos hpos, hq']; rfl)
        have HQN := Lib.hid hqn
        clear hpos hq' hqn HNX
        obtain ⟨kk, hkk⟩ : ∃ kk, D.acc q' = kk := ⟨_, rfl⟩
        rw [hkk] at HAC
        have HKK := Lib.hid hkk
        clear hkk
        go_wp2_with fail
        refine (HST.out _ HRW.out HX.out).mono ?_
        rintro e w1 ⟨rfl, hx1, hf1⟩
        have HF1 := Lib.hid (hf1.fut HW1.out (fun k hk => by have := beq_iff_eq.1 hk; omega))
        have HT1 := Lib.hid (HC2.out.futS hf1 (beq_eq_false_iff_ne.2 (by omega)))
        have HR1 := Lib.hid (HC1.out.futS hf1 (beq_eq_false_iff_ne.2 (by omega)))
        have HX1 := Lib.hid hx1
        have HRW1 := Lib.hid (HR.out.fut HF1.out)
        clear hx1 hf1 HST
        go_wp2_with fail
        refine (HAC.out _ HRW1.out HX1.out).mono ?_
        rintro e w2 ⟨rfl, hf2⟩
        have HF2 := Lib.hid (HF1.out.trans hf2)
        have HT2 := Lib.hid (HT1.out.fut hf2)
        have HR2 := Lib.hid (HR1.out.fut hf2)
        have HX2 := Lib.hid (HX1.out.fut hf2)
        clear hf2 HAC HF1 HT1 HR1 HX1 HRW1 HX HRW HC1 HC2
        by_cases hacc : 0 ≤ kk
        · have t0 := cell_fut (HT2.out.cell (i := 0) rfl)
          have t2 := cell_fut (HT2.out.cell (i := 2) rfl)
          have t0' := HT2.out.cell (i := 0) rfl
          have t2' := HT2.out.cell (i := 2) rfl
          have z0 := HT2.out.fz 0
          have z2 := HT2.out.fz 2
          have hwr : IntKind.i64.wrap ((at_ : Int) + m + 1) = (at_ : Int) + m + 1 := by rw [IntKind.wrap_i64]; omega
          have hg1 : (0 ≤ (at_ : Int) + m + 1) = True := eq_true (by omega)
          have hg2 : ((at_ : Int) + m + 1 ≤ s.size) = True := eq_true (by omega)
          have hg3 : ((at_ : Int) ≤ (at_ : Int) + m + 1) = True := eq_true (by omega)
          have hg4 : ((at_ : Int) + m + 1).toNat = at_ + m + 1 := by omega
          go_wp2_with fail
          refine wp_region_MG (relS (fun k => k == w.heap.size + 1 + 1)) o_lexer_one_11 (by kernel_rfl) (by kernel_rfl) (by intro c a d v w h; cases d <;> exact h) ?_; unfold o_lexer_one_11
          iterate 7 (refine wpS_h rfl rfl (fun K hK => ?_); go_simp; refine hK _ _ ?_; clear hK K)
          refine wpG_o rfl rfl (fun K hK => ?_)
          go_simp
          refine hK _ _ (.inr (futS_set _ _ _ (by simp))) ?_
          clear hK K
          have HT3 := Lib.hid (HT2.out.set 0 (.int .i64 kk))
          have z2' := HT3.out.fz 2
          have t2'' := HT3.out.cell (i := 2) rfl
          have HT4 := Lib.hid (HT3.out.set 2 (.string (s.extract at_ (at_ + m + 1))))
          (refine wpS_h rfl rfl (fun K hK => ?_); go_simp; refine hK _ _ ?_; clear hK K)
          refine wpG_o rfl rfl (fun K hK => ?_)
          go_simp
          refine hK _ _ (.inr (futS_set _ _ _ (by simp))) ?_
          clear hK K
          refine wpG_nil ?_
          clear t0 t2 t0' t2' z0 z2 z2' t2''
          go_wp2_with fail
          refine ⟨⟨m + 1, q', kk, m + 1, by go_num, by omega, by rw [← HN.out]; exact HQN.out, Lib.hid ?_, by omega, ((HR2.out.setOther (by simp only; omega) _).setOther (by simp only; omega) _).drew, ?_, ((HX2.out.setOther (by simp only; omega) _).setOther (by simp only; omega) _).drew, Lib.hid ?_⟩, by simp [intOf]; omega⟩
          · rw [HS2.out]
            simp only [HAU.out]
            have h1 : D.au.ac q' = some kk.toNat := by show (if 0 ≤ D.acc q' then _ else _) = _; rw [HKK.out, if_pos hacc]
            rw [h1]
            have h2 : ((kk.toNat : Nat) : Int) = kk := Int.toNat_of_nonneg hacc
            simp only [h2]
            rfl
          · exact HT4.out.drew
          · exact ((HF2.out.setCell (p := ⟨w.heap.size + 1 + 1, 0, none⟩) (by simp only; omega) _).setCell (p := ⟨w.heap.size + 1 + 1, 2, none⟩) (by simp only; omega) _).drew
        · have hacc' : (0 ≤ kk) = False := eq_false hacc
          go_wp2_with fail
          refine ⟨⟨m + 1, q', kind, z, by go_num, by omega, by rw [← HN.out]; exact HQN.out, Lib.hid ?_, by omega, HR2.out, HT2.out, HX2.out, HF2⟩, by simp [intOf]; omega⟩
          rw [HS2.out]
          simp only [HAU.out]
          have h1 : D.au.ac q' = none := by show (if 0 ≤ D.acc q' then _ else _) = _; rw [HKK.out, if_neg (by omega)]
          rw [h1]
          rfl
      · have hneg : (0 ≤ D.nxt q (D.cls b)) = False := eq_false hpos
        have HAU : Hid (D.au.nx q b = none) := Lib.hid (by show (if 0 ≤ D.nxt q (D.cls b) then some (D.nxt q (D.cls b)).toNat else none) = _; rw [if_neg hpos])
        clear hpos HNX
        go_wp2_with fail
        refine (HST.out _ HRW.out HX.out).mono ?_
        rintro e w1 ⟨rfl, _, hf1⟩
        have hk2 := HC2.out.futS hf1 (beq_eq_false_iff_ne.2 (by omega))
        have hk1 := HC1.out.futS hf1 (beq_eq_false_iff_ne.2 (by omega))
        have HF1 := Lib.hid (hf1.fut HW1.out (fun k hk => by have := beq_iff_eq.1 hk; omega))
        have c0 := hk2.cell (i := 0) rfl
        have c1 := hk2.cell (i := 1) rfl
        have c2 := hk2.cell (i := 2) rfl
        have c3 := hk2.cell (i := 3) rfl
        have d0 := hk1.cell (i := 0) rfl
        have d1 := hk1.cell (i := 1) rfl
        have d2 := hk1.cell (i := 2) rfl
        have d3 := hk1.cell (i := 3) rfl
        have f0 := hk1.fz 0
        have f1 := hk1.fz 1
        have f2 := hk1.fz 2
        have f3 := hk1.fz 3
        have HK1 := Lib.hid hk1
        clear hk1 hk2 hf1 HC1 HC2 HRW HX HST
        go_wp2_with fail
        refine one_ret rfl HK1.out HF1.out ?_
        rw [HS2.out]
        simp only [HAU.out]
        rfl
end Go.Proofs.YtlgpacpebjechaaGreatDoor
