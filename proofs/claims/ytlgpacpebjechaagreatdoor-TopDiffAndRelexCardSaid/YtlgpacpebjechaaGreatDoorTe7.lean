/-
  The scanner of a text: a token.
-/
import Derived.Test.YtlgpacpebjechaaGreatDoorBN
namespace Go.Proofs.YtlgpacpebjechaaGreatDoor
open Go.RowKit Go.Deep PLX
attribute [local go_sem] Oper.lit Oper.litS fut_fut fut_drew World.cell?_alloc_some
/-- where the scanner stands behind m bytes: in a state, or at its end -/
def ScanAt (M : AU) (n : Nat) (r : List Nat) (z1 : Nat) (st : Int) (m : Nat) (kind : Int) (z : Nat) : Prop :=
  (∃ q : Nat, st = q ∧ q < n ∧ m ≤ z1 ∧ scan M 0 r 0 (-1) 1 = scan M q (r.drop m) m kind z) ∨ (st = -1 ∧ scan M 0 r 0 (-1) 1 = (kind, z, m))
theorem scan1_res : Tryz.f48.results = #[.cell 4 48] := by kernel_rfl
theorem scan1_ret {w wx : World} {tmps : Array Value} {k a l : Int} {str : ByteArray} {v : Value} (ht : tmps.getD 4 undef = .pointer (some ⟨w.heap.size, 0, none⟩)) (hB : Blk wx w.heap.size 48 #[.int .i64 0, .int .i64 0, .string ⟨#[]⟩, .int .i64 0]) (hF : Fut w wx) (hv : v = .agg #[.int .i64 k, .int .i64 a, .string str, .int .i64 l]) :
    bodyPost Tryz.prog Tryz.f48 (fun e w' => e = .returned v ∧ Fut w w') .ret { tmps := tmps, defers := [] }
      ((((wx.setCell ⟨w.heap.size, 0, none⟩ (.int .i64 k)).setCell ⟨w.heap.size, 1, none⟩ (.int .i64 a)).setCell ⟨w.heap.size, 2, none⟩ (.string str)).setCell ⟨w.heap.size, 3, none⟩ (.int .i64 l)) := by
  subst hv
  refine bodyPost_ret (results_cell_row scan1_res _ _ w.heap.size _ _ _ _ ht ((((hB.set 0 (.int .i64 k)).set 1 (.int .i64 a)).set 2 (.string str)).set 3 (.int .i64 l)) Tryz.underlying48 rfl (by kernel_rfl)) rfl ?_
  refine ⟨rfl, (((hF.setCell (p := ⟨w.heap.size, 0, none⟩) ?_ _).setCell (p := ⟨w.heap.size, 1, none⟩) ?_ _).setCell (p := ⟨w.heap.size, 2, none⟩) ?_ _).setCell (p := ⟨w.heap.size, 3, none⟩) ?_ _⟩ <;> (simp only; omega)
set_option maxHeartbeats 6400000 in
theorem scan1_any (p : DP) (D : DA) (hD : D.OK) (s : ByteArray) (at_ bd bx : Nat) (w : World) (hs : s.size ≤ 1000000) (hat : at_ < s.size) (hR : RdA w p D) (hbd : Blk w bd 30 #[.slice (some ⟨p.C, 0, none⟩) 256 p.cc, .slice (some ⟨p.N, 0, none⟩) D.n p.cn, .slice (some ⟨p.A, 0, none⟩) D.n p.ca]) (hbx : Blk w bx 9 #[.string s]) :
    Calls Tryz.prog 48 #[.int .i64 at_, .pointer (some ⟨bx, 0, none⟩), .pointer (some ⟨bd, 0, none⟩)] w fun e w' => e = .returned (.agg (tokv (scan D.au 0 ((bl s).drop at_) 0 (-1) 1).1 at_ (s.extract at_ (at_ + (scan D.au 0 ((bl s).drop at_) 0 (-1) 1).2.1)) (scan D.au 0 ((bl s).drop at_) 0 (-1) 1).2.2).toArray) ∧ Fut w w' := by
  have HR := Lib.hid hR
  have HD := Lib.hid hD
  have HBX := Lib.hid hbx
  have q0 := hbx.cell (i := 0) rfl
  obtain ⟨n, hn⟩ : ∃ n, D.n = n := ⟨_, rfl⟩
  have HN := Lib.hid hn
  rw [hn] at hbd
  have HBD := Lib.hid hbd
  clear hR hD hbx hbd hn
  have hw1 : IntKind.i64.wrap ((at_ : Int) + 1) = (at_ : Int) + 1 := by rw [IntKind.wrap_i64]; omega
  have hg1 : (0 ≤ (at_ : Int) + 1) = True := eq_true (by omega)
  have hg2 : ((at_ : Int) + 1 ≤ s.size) = True := eq_true (by omega)
  have hg3 : ((at_ : Int) ≤ (at_ : Int) + 1) = True := eq_true (by omega)
  have hg4 : ((at_ : Int) + 1).toNat = at_ + 1 := by omega
  go_enter Tryz.func48, Tryz.ntmps48
  go_wp2_with fail
  obtain ⟨wb, hwb⟩ : ∃ q, q = (w.alloc (.cells #[.int .i64 0, .int .i64 0, .string ⟨#[]⟩, .int .i64 0] 48)).alloc (.cells #[.int .i64 (-1), .int .i64 at_, .string (s.extract at_ (at_ + 1)), .int .i64 0] 48) := ⟨_, rfl⟩
  rw [← hwb]
  have HF := Lib.hid (show Fut w wb from by rw [hwb]; exact ((Fut.refl w).alloc _).alloc _)
  have HB1 := Lib.hid (show Blk wb w.heap.size 48 #[.int .i64 0, .int .i64 0, .string ⟨#[]⟩, .int .i64 0] from by rw [hwb]; (repeat (first | exact heap_new' _ _ _ (by first | rfl | (simp only [World.size_alloc])) | refine (blk_alloc_lt _ _ _ (by first | omega | (simp only [World.size_alloc]; omega))).trans ?_)))
  have HB2 := Lib.hid (show Blk wb (w.heap.size + 1) 48 #[.int .i64 (-1), .int .i64 at_, .string (s.extract at_ (at_ + 1)), .int .i64 0] from by rw [hwb]; (repeat (first | exact heap_new' _ _ _ (by first | rfl | (simp only [World.size_alloc])) | refine (blk_alloc_lt _ _ _ (by first | omega | (simp only [World.size_alloc]; omega))).trans ?_)))
  clear hwb q0
  go_loopw [6, 7] (fun st i wr => ∃ (m : Nat) (q kind : Int) (z : Nat), st = .int .i64 q ∧ i = .int .i64 (at_ + m) ∧ at_ + m ≤ s.size + 1 ∧ Hid (ScanAt D.au n ((bl s).drop at_) (s.size - at_) q m kind z) ∧ z ≤ m + 1 ∧ Blk wr w.heap.size 48 #[.int .i64 0, .int .i64 0, .string ⟨#[]⟩, .int .i64 0] ∧
    Blk wr (w.heap.size + 1) 48 #[.int .i64 kind, .int .i64 at_, .string (s.extract at_ (at_ + z)), .int .i64 m] ∧ Hid (Fut w wr)) (fun _ i _ => s.size + 1 - (intOf i).toNat)
  case atStart => exact ⟨0, 0, -1, 1, rfl, by simp, by omega, Lib.hid (.inl ⟨0, rfl, by have := HD.out.n; have := HN.out; omega, Nat.zero_le _, rfl⟩), by omega, HB1.out, HB2.out, HF⟩
  case round =>
    obtain ⟨m, q, kind, z, rfl, rfl, hm, HS, hz, hB1, hB2, HFW⟩ := hrel
    rcases HS.out with ⟨q', rfl, hq, hmz, HSC⟩ | ⟨rfl, HSC⟩
    · have hq1 : (0 ≤ (q' : Int)) = True := eq_true (by omega)
      have t3 := hB2.cell (i := 3) rfl
      have z3 := hB2.fz 3
      have HW1 := Lib.hid (HFW.out.setCell (p := ⟨w.heap.size + 1, 3, none⟩) (by simp only; omega) (.int .i64 ((m : Int) + 1)))
      have hC2 : Blk (wr.setCell ⟨w.heap.size + 1, 3, none⟩ (.int .i64 ((m : Int) + 1))) (w.heap.size + 1) 48 #[.int .i64 kind, .int .i64 at_, .string (s.extract at_ (at_ + z)), .int .i64 ((m : Int) + 1)] := hB2.set 3 _
      have hC1 : Blk (wr.setCell ⟨w.heap.size + 1, 3, none⟩ (.int .i64 ((m : Int) + 1))) w.heap.size 48 #[.int .i64 0, .int .i64 0, .string ⟨#[]⟩, .int .i64 0] := hB1.setOther (by simp only; omega) _
      have HBX1 := Lib.hid (HBX.out.fut HW1.out)
      have y0 := HBX1.out.cell (i := 0) rfl
      have hwm : IntKind.i64.wrap ((m : Int) + 1) = (m : Int) + 1 := by rw [IntKind.wrap_i64]; omega
      by_cases hend : at_ + m = s.size
      · have he : ((at_ : Int) + m = s.size) = True := eq_true (by omega)
        have he2 : ((at_ : Int) + m == s.size) = true := beq_iff_eq.2 (by omega)
        have c0 := hC2.cell (i := 0) rfl
        have c1 := hC2.cell (i := 1) rfl
        have c2 := hC2.cell (i := 2) rfl
        have c3 := hC2.cell (i := 3) rfl
        have d0 := hC1.cell (i := 0) rfl
        have d1 := hC1.cell (i := 1) rfl
        have d2 := hC1.cell (i := 2) rfl
        have d3 := hC1.cell (i := 3) rfl
        have f0 := hC1.fz 0
        have f1 := hC1.fz 1
        have f2 := hC1.fz 2
        have f3 := hC1.fz 3
        have HC1 := Lib.hid hC1
        clear hB1 hB2 hC1 hC2
        go_wp2_with fail
        refine scan1_ret rfl HC1.out HW1.out ?_
        rw [HSC, List.drop_eq_nil_of_le (by rw [List.length_drop, bl_len]; omega)]
        rfl
      · have he : ((at_ : Int) + m = s.size) = False := eq_false (by omega)
        have he2 : ((at_ : Int) + m == s.size) = false := beq_eq_false_iff_ne.2 (by omega)
        have hlt : at_ + m < s.size := by omega
        have hb := bl_at hlt
        obtain ⟨b, hbb⟩ : ∃ b, (s[at_ + m]'hlt).toNat = b := ⟨_, rfl⟩
        have hb256 : b < 256 := by rw [← hbb]; exact UInt8.toNat_lt _
        rw [hbb] at hb
        have HBB := Lib.hid hb
        have hqD : q' < D.n := by rw [HN.out]; exact hq
        have hc := HD.out.cls b hb256
        have hRw := HR.out.fut HW1.out
        obtain ⟨br, cr, h1, h2⟩ := hRw.nxt q' hqD
        have r0 := cell_fut (hRw.cls b hb256)
        have r1 := cell_fut h1
        have r2 := cell_fut (h2 _ hc)
        have HNX := Lib.hid (HD.out.nxt q' (D.cls b) hqD hc)
        have g0 := cell_fut ((HBD.out.fut HW1.out).cell (i := 0) rfl)
        have g1 := cell_fut ((HBD.out.fut HW1.out).cell (i := 1) rfl)
        have y1 := cell_fut y0
        obtain ⟨K, hK0⟩ : ∃ n, D.K = n := ⟨_, rfl⟩
        obtain ⟨cl, hcl⟩ : ∃ n, D.cls b = n := ⟨_, rfl⟩
        obtain ⟨t, ht⟩ : ∃ n, D.nxt q' cl = n := ⟨_, rfl⟩
        rw [hK0] at r1 hc
        rw [hcl] at r0 r2 hc HNX
        rw [ht] at r2 HNX
        have HCL := Lib.hid (And.intro hcl ht)
        have hb1 : ((b : Int) < 256) = True := eq_true (by omega)
        have hc1 : ((cl : Int) < (K : Int)) = True := eq_true (by omega)
        have hqn1 : ((q' : Int) < (n : Int)) = True := eq_true (by omega)
        have hlt1 : ((at_ : Int) + m < s.size) = True := eq_true (by omega)
        have hge1 : (0 ≤ (at_ : Int) + m) = True := eq_true (by omega)
        have htn1 : ((at_ : Int) + m).toNat = at_ + m := by omega
        clear hb h1 h2 hRw hcl ht hK0
        go_wp2_with fail
        refine wp_region_M o_relex_scanner_1_8 (by kernel_rfl) (by kernel_rfl) (by intro c a d v w h; cases d <;> exact h) ?_; unfold o_relex_scanner_1_8
        iterate 15 (refine wpF_h rfl rfl (fun K hK => ?_); go_simp; refine hK _ _ ?_; clear hK K)
        refine wpF_nil ?_
        clear r0 r1 r2 g0 g1 y1
        by_cases hpos : 0 ≤ t
        · obtain ⟨q2, rfl⟩ : ∃ q2 : Nat, t = q2 := Int.eq_ofNat_of_zero_le hpos
          have hq2 : q2 < D.n := by have := HNX.out.2; omega
          have hp1 : (0 ≤ (q2 : Int)) = True := eq_true (by omega)
          have a0 := ((HR.out.fut HW1.out).acc q2 hq2)
          have a1 := ((HBD.out.fut HW1.out).cell (i := 2) rfl)
          have HAU : Hid (D.au.nx q' b = some q2) := Lib.hid (by show (if 0 ≤ D.nxt q' (D.cls b) then some (D.nxt q' (D.cls b)).toNat else none) = _; rw [HCL.out.1, HCL.out.2, if_pos hpos]; rfl)
          obtain ⟨kk, hkk⟩ : ∃ kk, D.acc q2 = kk := ⟨_, rfl⟩
          rw [hkk] at a0
          have hqn2 : ((q2 : Int) < n) = True := eq_true (by have := HN.out; omega)
          by_cases hacc : 0 ≤ kk
          · have hac1 : (0 ≤ kk) = True := eq_true hacc
            have hwr : IntKind.i64.wrap ((at_ : Int) + m + 1) = (at_ : Int) + m + 1 := by rw [IntKind.wrap_i64]; omega
            have hk1 : (0 ≤ (at_ : Int) + m + 1) = True := eq_true (by omega)
            have hk2 : ((at_ : Int) + m + 1 ≤ s.size) = True := eq_true (by omega)
            have hk3 : ((at_ : Int) ≤ (at_ : Int) + m + 1) = True := eq_true (by omega)
            have hk4 : ((at_ : Int) + m + 1).toNat = at_ + m + 1 := by omega
            go_wp2_with fail
            have HD1 := Lib.hid hC1.drew
            have HD2 := Lib.hid hC2.drew
            have HW2 := Lib.hid HW1.out.drew
            generalize (wr.setCell ⟨w.heap.size + 1, 3, none⟩ (.int .i64 ((m : Int) + 1))).drew = wq at HD1 HD2 HW2 ⊢
            have hbdlt := HBD.out.lt
            have hbxlt := HBX.out.lt
            have y2 := cell_futS (S := fun k => k == w.heap.size + 1) ((HBX.out.fut HW2.out).cell (i := 0) rfl) (beq_eq_false_iff_ne.2 (by simp only; omega))
            have a2 := cell_futS (S := fun k => k == w.heap.size + 1) ((HBD.out.fut HW2.out).cell (i := 2) rfl) (beq_eq_false_iff_ne.2 (by simp only; omega))
            have a3 := (HR.out.fut HW2.out).acc q2 hq2
            rw [hkk] at a3
            have hAlt : p.A < w.heap.size := World.block_lt_of_cell? _ _ (HR.out.acc q2 hq2)
            have a4 := cell_futS (S := fun k => k == w.heap.size + 1) a3 (beq_eq_false_iff_ne.2 (by simp only; omega))
            have t0' := HD2.out.cell (i := 0) rfl
            have t2' := HD2.out.cell (i := 2) rfl
            have z0 := HD2.out.fz 0
            have z2 := HD2.out.fz 2
            clear a0 a1 a3 y0 t3 z3 hB1 hB2 hC1 hC2
            refine wp_region_MG (relS (fun k => k == w.heap.size + 1)) o_relex_scanner_1_10 (by kernel_rfl) (by kernel_rfl) (by intro c a d v w h; cases d <;> exact h) ?_; unfold o_relex_scanner_1_10
            iterate 11 (refine wpS_h rfl rfl (fun K hK => ?_); go_simp; refine hK _ _ ?_; clear hK K)
            refine wpG_o rfl rfl (fun K hK => ?_)
            go_simp
            refine hK _ _ (.inr (futS_set _ _ _ (by simp))) ?_
            clear hK K
            have HT3 := Lib.hid (HD2.out.set 0 (.int .i64 kk))
            have z2' := HT3.out.fz 2
            have t2'' := HT3.out.cell (i := 2) rfl
            have HT4 := Lib.hid (HT3.out.set 2 (.string (s.extract at_ (at_ + m + 1))))
            (refine wpS_h rfl rfl (fun K hK => ?_); go_simp; refine hK _ _ ?_; clear hK K)
            refine wpG_o rfl rfl (fun K hK => ?_)
            go_simp
            refine hK _ _ (.inr (futS_set _ _ _ (by simp))) ?_
            clear hK K
            refine wpG_nil ?_
            clear t0' t2' z0 z2 z2' t2'' y2 a2 a4
            go_wp2_with fail
            refine ⟨⟨m + 1, q2, kk, m + 1, rfl, by go_num, by omega, Lib.hid (.inl ⟨q2, rfl, by have := HN.out; omega, by omega, ?_⟩), by omega, ((HD1.out.setOther (by simp only; omega) _).setOther (by simp only; omega) _).drew, HT4.out.drew, Lib.hid ((HW2.out.setCell (p := ⟨w.heap.size + 1, 0, none⟩) (by simp only; omega) _).setCell (p := ⟨w.heap.size + 1, 2, none⟩) (by simp only; omega) _).drew⟩, by simp [intOf]; omega⟩
            rw [HSC, List.drop_eq_getElem_cons (by rw [List.length_drop, bl_len]; omega), scan]
            have hg : ((bl s).drop at_)[m]? = some b := by rw [List.getElem?_drop]; exact HBB.out
            obtain ⟨_, e⟩ := List.getElem?_eq_some_iff.1 hg
            rw [e]
            simp only [HAU.out]
            have h1 : D.au.ac q2 = some kk.toNat := by show (if 0 ≤ D.acc q2 then _ else _) = _; rw [hkk, if_pos hacc]
            rw [h1]
            have h2 : ((kk.toNat : Nat) : Int) = kk := Int.toNat_of_nonneg hacc
            simp only [h2]
          · have hac1 : (0 ≤ kk) = False := eq_false hacc
            go_wp2_with fail
            refine ⟨⟨m + 1, q2, kind, z, rfl, by go_num, by omega, Lib.hid (.inl ⟨q2, rfl, by have := HN.out; omega, by omega, ?_⟩), by omega, hC1.drew, hC2.drew, Lib.hid HW1.out.drew⟩, by simp [intOf]; omega⟩
            rw [HSC, List.drop_eq_getElem_cons (by rw [List.length_drop, bl_len]; omega), scan]
            have hg : ((bl s).drop at_)[m]? = some b := by rw [List.getElem?_drop]; exact HBB.out
            obtain ⟨_, e⟩ := List.getElem?_eq_some_iff.1 hg
            rw [e]
            simp only [HAU.out]
            have h1 : D.au.ac q2 = none := by show (if 0 ≤ D.acc q2 then _ else _) = _; rw [hkk, if_neg hacc]
            rw [h1]
        · have hp1 : (0 ≤ t) = False := eq_false hpos
          have HAU : Hid (D.au.nx q' b = none) := Lib.hid (by show (if 0 ≤ D.nxt q' (D.cls b) then some (D.nxt q' (D.cls b)).toNat else none) = _; rw [HCL.out.1, HCL.out.2, if_neg hpos])
          have ht1 : t = -1 := by have := HNX.out.1; omega
          go_wp2_with fail
          refine ⟨⟨m + 1, t, kind, z, rfl, by go_num, by omega, Lib.hid (.inr ⟨ht1, ?_⟩), by omega, hC1.drew, hC2.drew, Lib.hid HW1.out.drew⟩, by simp [intOf]; omega⟩
          rw [HSC, List.drop_eq_getElem_cons (by rw [List.length_drop, bl_len]; omega), scan]
          have hg : ((bl s).drop at_)[m]? = some b := by rw [List.getElem?_drop]; exact HBB.out
          obtain ⟨_, e⟩ := List.getElem?_eq_some_iff.1 hg
          rw [e]
          simp only [HAU.out]
    · have hq1 : ((0 : Int) ≤ -1) = False := eq_false (by omega)
      have c0 := hB2.cell (i := 0) rfl
      have c1 := hB2.cell (i := 1) rfl
      have c2 := hB2.cell (i := 2) rfl
      have c3 := hB2.cell (i := 3) rfl
      have d0 := hB1.cell (i := 0) rfl
      have d1 := hB1.cell (i := 1) rfl
      have d2 := hB1.cell (i := 2) rfl
      have d3 := hB1.cell (i := 3) rfl
      have f0 := hB1.fz 0
      have f1 := hB1.fz 1
      have f2 := hB1.fz 2
      have f3 := hB1.fz 3
      have HC1 := Lib.hid hB1
      clear hB1 hB2
      go_wp2_with fail
      exact scan1_ret rfl HC1.out HFW.out (by rw [HSC])
end Go.Proofs.YtlgpacpebjechaaGreatDoor
