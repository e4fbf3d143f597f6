/-
  Combine, as the program and as the reference have it.
-/
import Derived.Test.YtleapckcihcpaaaK1
namespace Go.Proofs.Ytleapckcihcpaaa
open Go.RowKit PK
attribute [local go_sem] Oper.lit Oper.litS fut_fut fut_drew World.cell?_alloc_some
attribute [local go_sem] World.frozen?_setCell
set_option maxHeartbeats 3200000 in
theorem combine_any (cost : Int) (A : Option Addr) (n c : Nat) (l : List VV) (w : World) (hl : l.length = n) (hn : n ≤ maxLen) (hc : 0 ≤ cost ∧ cost ≤ INF) (hok : ∀ v ∈ l, okV v) (hR : RdS w A 2 encV l) :
    Calls Try.prog 54 #[.int .i64 cost, .slice A n c] w fun e w' => e = .returned (vv (comb cost l)) ∧ Below w.heap.size w w' := by
  have hn' : n ≤ 9223372036854775807 := hn
  have HR := Lib.hid hR
  have HL := Lib.hid hl
  have HK := Lib.hid hok
  have HC := Lib.hid hc
  have c1 : 0 ≤ cost := hc.1
  have c2 : cost ≤ 1099511627776 := hc.2
  have c3 : min cost 1099511627776 = cost := by omega
  clear hR hl hn hok hc
  go_enter Try.func54, Try.ntmps54
  go_wp2_with fail
  have HW := Lib.hid (show Fut w ((w.alloc (.cells #[.int .i64 0, .int .i64 0] 40)).alloc (.cells #[.int .i64 cost, .int .i64 1] 40)) from ((Fut.refl w).alloc _).alloc _)
  have HZ := Lib.hid (show Blk ((w.alloc (.cells #[.int .i64 0, .int .i64 0] 40)).alloc (.cells #[.int .i64 cost, .int .i64 1] 40)) w.heap.size 40 #[.int .i64 0, .int .i64 0] from (Blk.new w _ _).alloc _)
  have HO := Lib.hid (show Blk ((w.alloc (.cells #[.int .i64 0, .int .i64 0] 40)).alloc (.cells #[.int .i64 cost, .int .i64 1] 40)) (w.heap.size + 1) 40 #[.int .i64 cost, .int .i64 1] from heap_new' _ _ _ (by simp only [World.size_alloc]))
  generalize (w.alloc (.cells #[.int .i64 0, .int .i64 0] 40)).alloc (.cells #[.int .i64 cost, .int .i64 1] 40) = wb at *
  go_loopw [13] (fun i wr => ∃ j : Nat, j ≤ n ∧ i = .int .i64 j ∧ Hid (Blk wr (w.heap.size + 1) 40 #[.int .i64 (foldV cost (l.take j)).1, .int .i64 (foldV cost (l.take j)).2] ∧ Blk wr w.heap.size 40 #[.int .i64 0, .int .i64 0] ∧ Fut w wr)) (fun i _ => n - (intOf i).toNat)
  case atStart => exact ⟨0, Nat.zero_le _, rfl, Lib.hid ⟨HO.out, HZ.out, HW.out⟩⟩
  case round =>
    obtain ⟨j, hj, rfl, HI⟩ := hrel
    obtain ⟨hb1, hb2, hF⟩ := HI.out
    have hbd := foldV_bd HC.out HK.out j
    have HBD := Lib.hid hbd
    obtain ⟨⟨p1, p2⟩, p3, p4⟩ := hbd
    clear HI
    by_cases hlt : j < n
    · obtain ⟨x, hx⟩ := get_lt HL.out hlt
      have HS := Lib.hid (show Hid (foldV cost (l.take (j + 1)) = combG (foldV cost (l.take j)) x) from Lib.hid (foldV_succ hx))
      have hxo := HK.out x (List.mem_of_getElem? hx)
      obtain ⟨b, o, rfl, hc'⟩ := HR.out j x hx
      obtain ⟨xc, xs⟩ := x
      obtain ⟨x1, x2, x3, x4, _⟩ := hxo
      simp only at x1 x2 x3 x4
      unfold INF at *
      have e0 := hF.cell (hc' 0 _ (by decide) rfl)
      have e1 := hF.cell (hc' 1 _ (by decide) rfl)
      simp only [Nat.add_zero] at e0
      clear hx hc'
      generalize foldV cost (l.take j) = p at *
      obtain ⟨pa, pb⟩ := p
      simp only at *
      have g0 := hb1.cell (i := 0) rfl
      have g1 := hb1.cell (i := 1) rfl
      have g2 : ∀ o : Obj, (wr.alloc o).frozen? ⟨w.heap.size + 1, 0, none⟩ = false := fun o => (hb1.alloc o).fz 0
      have g3 : ∀ o : Obj, (wr.alloc o).frozen? ⟨w.heap.size + 1, 1, none⟩ = false := fun o => (hb1.alloc o).fz 1
      have HB1 := Lib.hid hb1
      have HB2 := Lib.hid hb2
      have HF := Lib.hid hF
      clear hb1 hb2 hF
      have HP := Lib.hid (And.intro p1 (And.intro p2 (And.intro p3 (And.intro p4 (And.intro x1 (And.intro x2 (And.intro x3 x4)))))))
      by_cases k1 : 1099511627776 < pa + xc
      all_goals by_cases k2 : 1099511627776 < pb + xs
      all_goals
        go_wp2_with fail
        refine ⟨⟨j + 1, by omega, by go_num, Lib.hid ⟨?_, ?_, ?_⟩⟩, by simp [intOf]; omega⟩
        · rw [HS.out.out]
          have h9 := ((HB1.out.alloc (.cells #[.int .i64 xc, .int .i64 xs] 40)).set 0 (.int .i64 (min (pa + xc) 1099511627776))).set 1 (.int .i64 (min (pb + xs) 1099511627776))
          simp only [combG, INF]
          first
            | (rw [show min (pa + xc) 1099511627776 = pa + xc by omega, show min (pb + xs) 1099511627776 = pb + xs by omega] at h9 ⊢; exact h9)
            | (rw [show min (pa + xc) 1099511627776 = pa + xc by omega, show min (pb + xs) 1099511627776 = 1099511627776 by omega] at h9 ⊢; exact h9)
            | (rw [show min (pa + xc) 1099511627776 = 1099511627776 by omega, show min (pb + xs) 1099511627776 = pb + xs by omega] at h9 ⊢; exact h9)
            | (rw [show min (pa + xc) 1099511627776 = 1099511627776 by omega, show min (pb + xs) 1099511627776 = 1099511627776 by omega] at h9 ⊢; exact h9)
        · exact ((HB2.out.alloc (.cells #[.int .i64 xc, .int .i64 xs] 40)).setOther (a := ⟨w.heap.size + 1, 0, none⟩) (by simp only; omega) _).setOther (a := ⟨w.heap.size + 1, 1, none⟩) (by simp only; omega) _
        · exact ((HF.out.alloc (.cells #[.int .i64 xc, .int .i64 xs] 40)).setCell (p := ⟨w.heap.size + 1, 0, none⟩) (by simp only; omega) _).setCell (p := ⟨w.heap.size + 1, 1, none⟩) (by simp only; omega) _
    · have hjn : l.take j = l := List.take_of_length_le (by rw [HL.out]; omega)
      have hcm : comb cost l = if 1099511627776 ≤ (foldV cost (l.take j)).1 then top else ⟨(foldV cost (l.take j)).1, (foldV cost (l.take j)).2⟩ := by rw [hjn]; rfl
      have HM := Lib.hid hcm
      clear hcm hjn
      unfold INF at *
      generalize foldV cost (l.take j) = p at *
      obtain ⟨pa, pb⟩ := p
      simp only at *
      have g0 := hb1.cell (i := 0) rfl
      have g1 := hb1.cell (i := 1) rfl
      have g4 := hb2.cell (i := 0) rfl
      have g5 := hb2.cell (i := 1) rfl
      have g2 := hb2.fz 0
      have g3 := hb2.fz 1
      have HB2 := Lib.hid hb2
      have HF := Lib.hid hF
      clear hb1 hb2 hF
      by_cases k1 : pa = 1099511627776
      · subst k1
        go_wp2_with fail
        refine bodyPost_ret (results_cell_row comb_res _ _ w.heap.size _ _ _ _ rfl ((HB2.out.set 0 (.int .i64 1099511627776)).set 1 (.int .i64 0)) Try.underlying40 rfl (by kernel_rfl)) rfl ?_
        rw [HM.out]
        exact ⟨rfl, (HF.out.setCell (p := ⟨w.heap.size, 0, none⟩) (by simp only; omega) _).setCell (p := ⟨w.heap.size, 1, none⟩) (by simp only; omega) _⟩
      · have k2 : ¬ 1099511627776 ≤ pa := by omega
        go_wp2_with fail
        refine bodyPost_ret (results_cell_row comb_res _ _ w.heap.size _ _ _ _ rfl ((HB2.out.set 0 (.int .i64 pa)).set 1 (.int .i64 pb)) Try.underlying40 rfl (by kernel_rfl)) rfl ?_
        rw [HM.out, if_neg (by omega)]
        exact ⟨rfl, (HF.out.setCell (p := ⟨w.heap.size, 0, none⟩) (by simp only; omega) _).setCell (p := ⟨w.heap.size, 1, none⟩) (by simp only; omega) _⟩
set_option maxHeartbeats 3200000 in
theorem rcombine_any (cost : Int) (A : Option Addr) (n c : Nat) (l : List VV) (w : World) (hl : l.length = n) (hn : n ≤ maxLen) (hc : 0 ≤ cost ∧ cost ≤ INF) (hok : ∀ v ∈ l, okV v) (hR : RdS w A 2 encV l) :
    Calls Try.prog 25 #[.int .i64 cost, .slice A n c] w fun e w' => e = .returned (vv (comb cost l)) ∧ Below w.heap.size w w' := by
  have hn' : n ≤ 9223372036854775807 := hn
  have HR := Lib.hid hR
  have HL := Lib.hid hl
  have HK := Lib.hid hok
  have HC := Lib.hid hc
  clear hR hl hn hok hc
  go_enter Try.func25, Try.ntmps25
  go_wp2_with fail
  have HW := Lib.hid (show Fut w (w.alloc (.cells #[.int .i64 0, .int .i64 0] 40)) from (Fut.refl w).alloc _)
  have HZ := Lib.hid (show Blk (w.alloc (.cells #[.int .i64 0, .int .i64 0] 40)) w.heap.size 40 #[.int .i64 0, .int .i64 0] from Blk.new w _ _)
  generalize w.alloc (.cells #[.int .i64 0, .int .i64 0] 40) = wb at *
  go_loopw [5, 6, 7] (fun x y i wr => ∃ j : Nat, j ≤ n ∧ i = .int .i64 j ∧ (∃ p : Int × Int, x = .int .i64 p.1 ∧ y = .int .i64 p.2 ∧ Hid (p = foldV cost (l.take j))) ∧ Fut wb wr) (fun _ _ i _ => n - (intOf i).toNat)
  case atStart => exact ⟨0, Nat.zero_le _, rfl, ⟨(cost, 1), rfl, rfl, Lib.hid rfl⟩, Fut.refl _⟩
  case round =>
    obtain ⟨j, hj, rfl, ⟨⟨pa, pb⟩, rfl, rfl, HP⟩, hF⟩ := hrel
    have hbd := foldV_bd HC.out HK.out j
    rw [← HP.out] at hbd
    obtain ⟨⟨p1, p2⟩, p3, p4⟩ := hbd
    simp only at p1 p2 p3 p4
    unfold INF at *
    by_cases hlt : j < n
    · obtain ⟨x, hx⟩ := get_lt HL.out hlt
      have hs := foldV_succ (cost := cost) hx
      rw [← HP.out] at hs
      have HS := Lib.hid (show Hid (foldV cost (l.take (j + 1)) = combG (pa, pb) x) from Lib.hid hs)
      have hxo := HK.out x (List.mem_of_getElem? hx)
      obtain ⟨b, o, rfl, hc'⟩ := HR.out j x hx
      obtain ⟨xc, xs⟩ := x
      obtain ⟨x1, x2, x3, x4, _⟩ := hxo
      simp only at x1 x2 x3 x4
      unfold INF at *
      have e0 := cell_fut ((HW.out.trans hF).cell (hc' 0 _ (by decide) rfl))
      have e1 := cell_fut ((HW.out.trans hF).cell (hc' 1 _ (by decide) rfl))
      simp only [Nat.add_zero] at e0
      have HF := Lib.hid hF
      clear hx hc' hs hF
      have wr1 : IntKind.i64.wrap (pa + xc) = pa + xc := by simp [IntKind.wrap, IntKind.signed, IntKind.bits]; omega
      have wr2 : IntKind.i64.wrap (pb + xs) = pb + xs := by simp [IntKind.wrap, IntKind.signed, IntKind.bits]; omega
      go_wp2_with fail
      refine wp_region_M o_emendateref29_Combine_5 (by kernel_rfl) (by kernel_rfl) (by intro c a d v w h; cases d <;> exact h) ?_; unfold o_emendateref29_Combine_5
      iterate 18 (refine wpF_h rfl rfl (fun K hK => ?_); go_simp; refine hK _ _ ?_; clear hK K)
      refine wpF_nil ?_
      go_wp2_with fail
      have v1 : (if 1099511627776 < pa + xc then 1099511627776 else pa + xc) = min (pa + xc) 1099511627776 := by split <;> omega
      have v2 : (if 1099511627776 < pb + xs then 1099511627776 else pb + xs) = min (pb + xs) 1099511627776 := by split <;> omega
      simp only [v1, v2]
      exact ⟨⟨j + 1, by omega, by go_num, ⟨combG (pa, pb) ⟨xc, xs⟩, rfl, rfl, Lib.hid HS.out.out.symm⟩, HF.out.drew⟩, by simp [intOf]; omega⟩
    · have hjn : l.take j = l := List.take_of_length_le (by rw [HL.out]; omega)
      have hcm : comb cost l = if 1099511627776 ≤ pa then top else ⟨pa, pb⟩ := by
        have h9 := HP.out
        rw [hjn] at h9
        unfold comb
        unfold foldV at h9
        rw [← h9]; rfl
      have HM := Lib.hid hcm
      clear hcm hjn HP
      have hb2 := HZ.out.fut hF
      have g4 := hb2.cell (i := 0) rfl
      have g5 := hb2.cell (i := 1) rfl
      have g2 := hb2.fz 0
      have g3 := hb2.fz 1
      have HB2 := Lib.hid hb2
      have HF := Lib.hid hF
      clear hb2 hF
      by_cases k1 : 1099511627776 ≤ pa
      · go_wp2_with fail
        refine bodyPost_ret (results_cell_row rcomb_res _ _ w.heap.size _ _ _ _ rfl ((HB2.out.set 0 (.int .i64 1099511627776)).set 1 (.int .i64 0)) Try.underlying40 rfl (by kernel_rfl)) rfl ?_
        rw [HM.out, if_pos k1]
        exact ⟨rfl, ((HW.out.trans HF.out).setCell (p := ⟨w.heap.size, 0, none⟩) (by simp only; omega) _).setCell (p := ⟨w.heap.size, 1, none⟩) (by simp only; omega) _⟩
      · go_wp2_with fail
        refine bodyPost_ret (results_cell_row rcomb_res _ _ w.heap.size _ _ _ _ rfl ((HB2.out.set 0 (.int .i64 pa)).set 1 (.int .i64 pb)) Try.underlying40 rfl (by kernel_rfl)) rfl ?_
        rw [HM.out, if_neg (by omega)]
        exact ⟨rfl, ((HW.out.trans HF.out).setCell (p := ⟨w.heap.size, 0, none⟩) (by simp only; omega) _).setCell (p := ⟨w.heap.size, 1, none⟩) (by simp only; omega) _⟩
end Go.Proofs.Ytleapckcihcpaaa
