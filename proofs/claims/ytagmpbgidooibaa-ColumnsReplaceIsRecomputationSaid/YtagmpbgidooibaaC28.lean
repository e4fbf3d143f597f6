/-
  The law of concatenation, walked: it returns true and turns nothing that was there.
-/
import Derived.Test.YtagmpbgidooibaaC23
import Derived.Test.YtagmpbgidooibaaC25
import Derived.Test.YtagmpbgidooibaaC26
import Derived.Test.YtagmpbgidooibaaCq
namespace Go.Proofs.Ytagmpbgidooibaa
open Go.RowKit Go.Deep
attribute [local go_sem] Oper.lit Oper.litS fut_fut fut_drew World.cell?_alloc_some
attribute [local go_sem] fut_base_drew
theorem rdc_far {w : World} {A : Option Addr} {cs : List CC} {k : Nat} (h : RdC w A cs) (h1 : ∀ b o q, A = some ⟨b, o, q⟩ → b ≠ k) (h2 : ∀ y ∈ cs, ∀ b o q, y.A = some ⟨b, o, q⟩ → b ≠ k) (u0 u1 u2 : Value) : RdC (((w.setCell ⟨k, 0, none⟩ u0).setCell ⟨k, 1, none⟩ u1).setCell ⟨k, 2, none⟩ u2) A cs := by
  refine ⟨rds_sets h.1 k h1 _ _ _, fun y hy => ⟨fun i a hi => ?_, (h.2 y hy).2⟩⟩
  obtain ⟨b, o, e, hc⟩ := (h.2 y hy).1 i a hi
  have hb := h2 y hy b o _ e
  refine ⟨b, o, e, ?_⟩
  rw [World.cell?_of_block (blk_setCell_other _ _ _ _ hb), World.cell?_of_block (blk_setCell_other _ _ _ _ hb), World.cell?_of_block (blk_setCell_other _ _ _ _ hb)]
  exact hc
set_option maxHeartbeats 12800000 in
set_option maxRecDepth 4000 in
theorem law_clocal (Z : Option Addr) (n zc : Nat) (X : Option Addr) (m xc : Nat) (ks : List Int) (xs : List XX) (A1 : Option Addr) (n1 c1 : Nat) (A2 : Option Addr) (n2 c2 : Nat) (A3 : Option Addr) (n3 c3 : Nat) (s u v8 : Int) (ins del : List Int) (rep : List RR) (w : World)
    (hkl : ks.length = n) (hn : n ≤ maxLen) (hxl : xs.length = m) (hm : m ≤ maxLen) (h1 : ins.length = n1) (h2 : del.length = n2) (h3 : rep.length = n3) (b1 : n1 ≤ maxLen) (b2 : n2 ≤ maxLen) (b3 : n3 ≤ maxLen) (hnz : n ≤ zc) (hmx : m ≤ xc) (hzc : zc ≤ maxLen) (hxc : xc ≤ maxLen) (hv0 : 0 ≤ v8) (hv1 : v8 ≤ 255)
    (hZ : Rd1 w Z (.int .i64 ·) ks) (hX : RdX w X xs) (r1 : Rd1 w A1 (.int .i64 ·) ins) (r2 : Rd1 w A2 (.int .i64 ·) del) (r3 : RdR w A3 rep) :
    Calls Try.prog 5 #[tv Z n zc X m xc, pv A1 n1 c1 A2 n2 c2 A3 n3 c3 s u, .int .u8 v8] w fun e w' => e = .returned (.bool true) ∧ Below w.heap.size w w' := by
  have HW := Lib.hid (show Fut w ((w.alloc (.cells #[.slice Z n zc, .slice X m xc] 31)).alloc (.cells #[.slice A1 n1 c1, .slice A2 n2 c2, .slice A3 n3 c3, .int .i64 s, .int .i64 u] 34)) from ((Fut.refl w).alloc _).alloc _)
  have q0 : ∀ dd os, (fut ((w.alloc (.cells #[.slice Z n zc, .slice X m xc] 31)).alloc (.cells #[.slice A1 n1 c1, .slice A2 n2 c2, .slice A3 n3 c3, .int .i64 s, .int .i64 u] 34)) dd os).cell? ⟨w.heap.size, 0, none⟩ = some (.slice Z n zc) := cell_fut (by (repeat (first | exact (cell_al_new _ _ _ _ _ _ (by first | rfl | (simp only [World.size_alloc]))).trans rfl | refine (cell_al_old _ _ _ (by first | omega | (simp only [World.size_alloc]; omega))).trans ?_)))
  have q1 : ∀ dd os, (fut ((w.alloc (.cells #[.slice Z n zc, .slice X m xc] 31)).alloc (.cells #[.slice A1 n1 c1, .slice A2 n2 c2, .slice A3 n3 c3, .int .i64 s, .int .i64 u] 34)) dd os).cell? ⟨w.heap.size, 1, none⟩ = some (.slice X m xc) := cell_fut (by (repeat (first | exact (cell_al_new _ _ _ _ _ _ (by first | rfl | (simp only [World.size_alloc]))).trans rfl | refine (cell_al_old _ _ _ (by first | omega | (simp only [World.size_alloc]; omega))).trans ?_)))
  have q2 : ∀ dd os, (fut ((w.alloc (.cells #[.slice Z n zc, .slice X m xc] 31)).alloc (.cells #[.slice A1 n1 c1, .slice A2 n2 c2, .slice A3 n3 c3, .int .i64 s, .int .i64 u] 34)) dd os).cell? ⟨w.heap.size + 1, 0, none⟩ = some (.slice A1 n1 c1) := cell_fut (by (repeat (first | exact (cell_al_new _ _ _ _ _ _ (by first | rfl | (simp only [World.size_alloc]))).trans rfl | refine (cell_al_old _ _ _ (by first | omega | (simp only [World.size_alloc]; omega))).trans ?_)))
  have q3 : ∀ dd os, (fut ((w.alloc (.cells #[.slice Z n zc, .slice X m xc] 31)).alloc (.cells #[.slice A1 n1 c1, .slice A2 n2 c2, .slice A3 n3 c3, .int .i64 s, .int .i64 u] 34)) dd os).cell? ⟨w.heap.size + 1, 1, none⟩ = some (.slice A2 n2 c2) := cell_fut (by (repeat (first | exact (cell_al_new _ _ _ _ _ _ (by first | rfl | (simp only [World.size_alloc]))).trans rfl | refine (cell_al_old _ _ _ (by first | omega | (simp only [World.size_alloc]; omega))).trans ?_)))
  have q4 : ∀ dd os, (fut ((w.alloc (.cells #[.slice Z n zc, .slice X m xc] 31)).alloc (.cells #[.slice A1 n1 c1, .slice A2 n2 c2, .slice A3 n3 c3, .int .i64 s, .int .i64 u] 34)) dd os).cell? ⟨w.heap.size + 1, 2, none⟩ = some (.slice A3 n3 c3) := cell_fut (by (repeat (first | exact (cell_al_new _ _ _ _ _ _ (by first | rfl | (simp only [World.size_alloc]))).trans rfl | refine (cell_al_old _ _ _ (by first | omega | (simp only [World.size_alloc]; omega))).trans ?_)))
  have q5 : ∀ dd os, (fut ((w.alloc (.cells #[.slice Z n zc, .slice X m xc] 31)).alloc (.cells #[.slice A1 n1 c1, .slice A2 n2 c2, .slice A3 n3 c3, .int .i64 s, .int .i64 u] 34)) dd os).cell? ⟨w.heap.size + 1, 3, none⟩ = some (.int .i64 s) := cell_fut (by (repeat (first | exact (cell_al_new _ _ _ _ _ _ (by first | rfl | (simp only [World.size_alloc]))).trans rfl | refine (cell_al_old _ _ _ (by first | omega | (simp only [World.size_alloc]; omega))).trans ?_)))
  have q6 : ∀ dd os, (fut ((w.alloc (.cells #[.slice Z n zc, .slice X m xc] 31)).alloc (.cells #[.slice A1 n1 c1, .slice A2 n2 c2, .slice A3 n3 c3, .int .i64 s, .int .i64 u] 34)) dd os).cell? ⟨w.heap.size + 1, 4, none⟩ = some (.int .i64 u) := cell_fut (by (repeat (first | exact (cell_al_new _ _ _ _ _ _ (by first | rfl | (simp only [World.size_alloc]))).trans rfl | refine (cell_al_old _ _ _ (by first | omega | (simp only [World.size_alloc]; omega))).trans ?_)))
  have HFZ := Lib.hid (fun w' h => fewZ_any Z n zc ks X m xc xs w' hkl hn hxl hm h)
  have HFP := Lib.hid (fun w' h => fewP_any A1 n1 c1 A2 n2 c2 A3 n3 c3 s u ins del rep w' h1 h2 h3 b1 b2 b3 h)
  have HZ := Lib.hid (hZ.fut HW.out)
  have HX := Lib.hid (hX.fut HW.out)
  have R1 := Lib.hid (r1.fut HW.out)
  have R2 := Lib.hid (r2.fut HW.out)
  have R3 := Lib.hid (r3.fut HW.out)
  have HLS := Lib.hid (And.intro hkl (And.intro hxl (And.intro h1 (And.intro h2 h3))))
  have HBS := Lib.hid (And.intro b2 (And.intro b3 (And.intro hnz (And.intro hmx (And.intro hzc hxc)))))
  have kz : zc ≤ 9223372036854775807 := hzc
  have kx : xc ≤ 9223372036854775807 := hxc
  clear hkl hn hxl hm h1 h2 h3 b1 b2 b3 hZ hX r1 r2 r3 hnz hmx hzc hxc
  have e37 : ∀ z : Int, (z == z) = true := fun z => by simp
  have e38 : ∀ z : Int, (z != z) = false := fun z => by simp
  by_cases hz : fewZ ks xs = true
  · rw [hz] at HFZ
    by_cases hp : fewP ins del rep = true
    · rw [hp] at HFP
      obtain ⟨hzn, hzm⟩ := fewZ_len' hz
      obtain ⟨hp1, hp2, hp3⟩ := fewP_len' hp
      have HLS2 := HLS.out
      rw [HLS2.1] at hzn
      rw [HLS2.2.1] at hzm
      rw [HLS2.2.2.1] at hp1
      rw [HLS2.2.2.2.1] at hp2
      rw [HLS2.2.2.2.2] at hp3
      clear hz hp HLS2
      by_cases hmn : (m : Int) = (n : Int)
      · obtain ⟨m1, m2, m3⟩ := cmpF_yes hmn
        have HMN := Lib.hid (show m = n by omega)
        clear hmn m1
        have HOF := Lib.hid (fun w' a1 a2 a3 a4 a5 => of_any Z n zc ks X m xc xs A1 n1 c1 A2 n2 c2 A3 n3 c3 s u ins del rep w' HLS.out.1 (by omega) HLS.out.2.1 (by unfold maxLen; omega) HLS.out.2.2.1 HLS.out.2.2.2.1 HLS.out.2.2.2.2 (by omega) HBS.out.1 HBS.out.2.1 a1 a2 a3 a4 a5)
        by_cases hE : ofE ks xs ins del rep s u = 0
        · have HE := Lib.hid hE
          clear hE
          go_enter Try.func5, Try.ntmps5
          go_wp2_with (first | (go_at_call 13; refine (HFZ.out _ HX.out).mono ?_; rintro e w1 ⟨rfl, hb1⟩; obtain ⟨dd, oo, rfl⟩ := fut_of hb1; clear hb1) | (go_at_call 14; refine (HFP.out _ (R3.out.fut (Fut.fut _ _ _))).mono ?_; rintro e w1 ⟨rfl, hb1⟩; obtain ⟨d2, o2, rfl⟩ := fut_of (Fut.trans (Fut.fut _ _ _) hb1); clear hb1))
          refine (HOF.out _ (HZ.out.fut (Fut.fut _ _ _)) (HX.out.fut (Fut.fut _ _ _)) (R1.out.fut (Fut.fut _ _ _)) (R2.out.fut (Fut.fut _ _ _)) (R3.out.fut (Fut.fut _ _ _))).mono ?_
          rintro e w3 ⟨hr, hb3⟩
          obtain ⟨A, c, cols, rfl, hkey, hrd⟩ := hr.2 HE.out
          have HKEY := Lib.hid hkey
          have HRD := Lib.hid hrd
          obtain ⟨d3, o3, rfl⟩ := fut_of (show Fut ((w.alloc (.cells #[.slice Z n zc, .slice X m xc] 31)).alloc (.cells #[.slice A1 n1 c1, .slice A2 n2 c2, .slice A3 n3 c3, .int .i64 s, .int .i64 u] 34)) w3 from (Fut.fut _ _ _).trans hb3)
          have HA3 := Lib.hid (show Fut ((w.alloc (.cells #[.slice Z n zc, .slice X m xc] 31)).alloc (.cells #[.slice A1 n1 c1, .slice A2 n2 c2, .slice A3 n3 c3, .int .i64 s, .int .i64 u] 34)) ((fut ((w.alloc (.cells #[.slice Z n zc, .slice X m xc] 31)).alloc (.cells #[.slice A1 n1 c1, .slice A2 n2 c2, .slice A3 n3 c3, .int .i64 s, .int .i64 u] 34)) d3 o3).alloc (.cells #[.slice A n c, .slice A1 n1 c1, .int .i64 s] 25)) from (Fut.fut _ _ _).alloc _)
          have HRA := Lib.hid (HRD.out.fut ((Fut.refl (fut ((w.alloc (.cells #[.slice Z n zc, .slice X m xc] 31)).alloc (.cells #[.slice A1 n1 c1, .slice A2 n2 c2, .slice A3 n3 c3, .int .i64 s, .int .i64 u] 34)) d3 o3)).alloc (.cells #[.slice A n c, .slice A1 n1 c1, .int .i64 s] 25)))
          have HIA := Lib.hid (show CelI ((fut ((w.alloc (.cells #[.slice Z n zc, .slice X m xc] 31)).alloc (.cells #[.slice A1 n1 c1, .slice A2 n2 c2, .slice A3 n3 c3, .int .i64 s, .int .i64 u] 34)) d3 o3).alloc (.cells #[.slice A n c, .slice A1 n1 c1, .int .i64 s] 25)) (fut ((w.alloc (.cells #[.slice Z n zc, .slice X m xc] 31)).alloc (.cells #[.slice A1 n1 c1, .slice A2 n2 c2, .slice A3 n3 c3, .int .i64 s, .int .i64 u] 34)) d3 o3).heap.size (.slice A n c) (.slice A1 n1 c1) (.int .i64 s) from heap_new' _ _ _ rfl)
          clear hr hkey hrd hb3 HRD
          obtain ⟨k, hk⟩ : ∃ k : Nat, Int.tmod v8 ((n : Int) + 1) = (k : Int) := Int.eq_ofNat_of_zero_le (Int.tmod_nonneg _ hv0)
          have hkn : k ≤ n := by
            have := Int.tmod_lt_of_pos v8 (show (0 : Int) < (n : Int) + 1 by omega)
            omega
          have hn1 : ((n : Int) + 1 = 0) = False := eq_false (by omega)
          have hn2 : ((n : Int) + 1 == 0) = false := by simp; omega
          have HOT := Lib.hid (fun w' a1 a2 a3 a4 a5 => of_anyq Z k zc (ks.take k) X k xc (xs.take k) A1 n1 c1 A2 n2 c2 A3 n3 c3 s u ins del rep w' (by have := HLS.out.1; simp; omega) (by omega) (by have := HLS.out.2.1; have := HMN.out; simp; omega) (by unfold maxLen; omega) HLS.out.2.2.1 HLS.out.2.2.2.1 HLS.out.2.2.2.2 (by omega) HBS.out.1 HBS.out.2.1 (Rd1.cutTop a1 k) (RdX.cutTop a2 k) a3 a4 a5)
          have HET := Lib.hid (of_take HE.out (by rw [HLS.out.1, HLS.out.2.1, HMN.out]) k)
          have HXM := Lib.hid (show k ≤ m from by have := HMN.out; omega)
          have kmm : k ≤ m := HXM.out
          have kcz : k ≤ zc := by have := HBS.out.2.2.1; omega
          have kcx : k ≤ xc := by have := HBS.out.2.2.2.1; have := HXM.out; omega
          go_wp2_with fail
          generalize (fut ((w.alloc (.cells #[.slice Z n zc, .slice X m xc] 31)).alloc (.cells #[.slice A1 n1 c1, .slice A2 n2 c2, .slice A3 n3 c3, .int .i64 s, .int .i64 u] 34)) d3 o3).alloc (.cells #[.slice A n c, .slice A1 n1 c1, .int .i64 s] 25) = w5 at *
          generalize hwn : (fut ((w.alloc (.cells #[.slice Z n zc, .slice X m xc] 31)).alloc (.cells #[.slice A1 n1 c1, .slice A2 n2 c2, .slice A3 n3 c3, .int .i64 s, .int .i64 u] 34)) d3 o3).heap.size = wn at *
          clear hwn
          obtain ⟨d9, o9, hw9⟩ := fut_of HA3.out
          have y0 := q0 d9 o9
          have y1 := q1 d9 o9
          have y2 := q2 d9 o9
          have y3 := q3 d9 o9
          have y4 := q4 d9 o9
          have y5 := q5 d9 o9
          have y6 := q6 d9 o9
          rw [← hw9] at y0 y1 y2 y3 y4 y5 y6
          clear hw9
          obtain ⟨S, hS⟩ : ∃ S : Nat → Bool, S = fun q => decide (w5.heap.size ≤ q) := ⟨_, rfl⟩
          have hSl : ∀ q, q < w5.heap.size → S q = false := fun q hq => by rw [hS]; exact decide_eq_false (by omega)
          have hSh : ∀ q, w5.heap.size ≤ q → S q = true := fun q hq => by rw [hS]; exact decide_eq_true hq
          clear hS
          have x0 := cell_futS y0 (hSl _ (World.block_lt_of_cell? _ _ y0))
          have x1 := cell_futS y1 (hSl _ (World.block_lt_of_cell? _ _ y1))
          have x2 := cell_futS y2 (hSl _ (World.block_lt_of_cell? _ _ y2))
          have x3 := cell_futS y3 (hSl _ (World.block_lt_of_cell? _ _ y3))
          have x4 := cell_futS y4 (hSl _ (World.block_lt_of_cell? _ _ y4))
          have x5 := cell_futS y5 (hSl _ (World.block_lt_of_cell? _ _ y5))
          have x6 := cell_futS y6 (hSl _ (World.block_lt_of_cell? _ _ y6))
          refine wp_region_MG (relS S) o_emendatelaw35_ColumnsLocal_7 (by kernel_rfl) (by kernel_rfl) (by intro c a d v w h; cases d <;> exact h) ?_; unfold o_emendatelaw35_ColumnsLocal_7
          iterate 9 (refine wpS_h rfl rfl (fun K hK => ?_); go_simp; refine hK _ _ ?_; clear hK K)
          refine wpG_two rfl rfl (fun K hK => ?_) (fun K hK => ?_)
          · go_simp
            go_at_call 15
            refine (HOT.out _ (HZ.out.fut ((HA3.out).trans (Fut.refl w5).drew)) (HX.out.fut ((HA3.out).trans (Fut.refl w5).drew)) (R1.out.fut ((HA3.out).trans (Fut.refl w5).drew)) (R2.out.fut ((HA3.out).trans (Fut.refl w5).drew)) (R3.out.fut ((HA3.out).trans (Fut.refl w5).drew))).mono ?_
            rintro e wt ⟨hr, hb⟩
            obtain ⟨tA, tc, tcols, rfl, hkey, hrd, hlo1, hlo2, hcut, hcap1, hcap2⟩ := hr.2 HET.out
            refine hK _ _ (.inr ((relS S).of_fut hb)) ?_
            clear hK K
            have HKt := Lib.hid hkey
            have HNt := Lib.hid (show tA = none → k = 0 ∧ tc = 0 from fun e9 => by
              rcases hcut with h9 | ⟨b9, o9, h9⟩
              · exact h9
              · rw [e9] at h9; cases h9)
            clear hcut hcap1 hcap2
            have hG : Fut w5 (wt.alloc (.cells #[.slice none 0 0, .slice none 0 0, .int .i64 0] 25)) := ((Fut.refl w5).drew.trans hb).alloc _
            iterate 3 (refine wpS_h rfl rfl (fun K hK => ?_); go_simp; refine hK _ _ ?_; clear hK K)
            refine wpG_o rfl rfl (fun K hK => ?_)
            go_simp
            refine hK _ _ (.inr ((relS S).of_fut ((Fut.refl _).alloc _))) ?_
            clear hK K
            obtain ⟨bt, hbb⟩ : ∃ q, q = wt.heap.size := ⟨_, rfl⟩
            rw [← hbb]
            have HCt := Lib.hid (show CelI (wt.alloc (.cells #[.slice none 0 0, .slice none 0 0, .int .i64 0] 25)) bt (.slice none 0 0) (.slice none 0 0) (.int .i64 0) from heap_new' _ _ _ hbb)
            have HBt := Lib.hid (show w5.heap.size ≤ bt from by rw [hbb]; exact ((Fut.refl w5).drew.trans hb).size)
            have HGt := Lib.hid hG
            have HDt := Lib.hid hrd
            have HLt := Lib.hid (And.intro (show Fut wt (wt.alloc (.cells #[.slice none 0 0, .slice none 0 0, .int .i64 0] 25)) from (Fut.refl wt).alloc _) (show wt.heap.size ≤ bt from by omega))
            clear hr hb hkey hrd hG hbb hlo1 hlo2
            generalize wt.alloc (.cells #[.slice none 0 0, .slice none 0 0, .int .i64 0] 25) = wst at *
            refine wpG_o rfl rfl (fun K hK => ?_)
            have z0 := HCt.out.c0
            have z1 := HCt.out.c1
            have z2 := HCt.out.c2
            have z3 := HCt.out.fz 0
            have z4 := HCt.out.fz 1
            have z5 := HCt.out.fz 2
            go_simp
            refine hK _ _ (.inr ((relS S).trans (futS_set _ _ _ (hSh _ HBt.out)) ((relS S).trans (futS_set _ _ _ (hSh _ HBt.out)) (futS_set _ _ _ (hSh _ HBt.out))))) ?_
            clear hK K z0 z1 z2 z3 z4 z5
            have HIt := Lib.hid (HCt.out.sets (.slice tA k tc) (.slice A1 n1 c1) (.int .i64 s))
            have HFt := Lib.hid (show Fut w5 (((wst.setCell ⟨bt, 0, none⟩ (.slice tA k tc)).setCell ⟨bt, 1, none⟩ (.slice A1 n1 c1)).setCell ⟨bt, 2, none⟩ (.int .i64 s)) from sets_fut HGt.out HBt.out _ _ _)
            have HRt := Lib.hid (show RdC (((wst.setCell ⟨bt, 0, none⟩ (.slice tA k tc)).setCell ⟨bt, 1, none⟩ (.slice A1 n1 c1)).setCell ⟨bt, 2, none⟩ (.int .i64 s)) tA tcols from HDt.out.fut (sets_fut HLt.out.1 HLt.out.2 _ _ _))
            generalize (((wst.setCell ⟨bt, 0, none⟩ (.slice tA k tc)).setCell ⟨bt, 1, none⟩ (.slice A1 n1 c1)).setCell ⟨bt, 2, none⟩ (.int .i64 s)) = wzt at *
            clear HCt HGt HDt HLt hSl hSh x0 x1 x2 x3 x4 x5 x6 y0 y1 y2 y3 y4 y5 y6
            (refine wpS_h rfl rfl (fun K hK => ?_); go_simp; refine hK _ _ ?_; clear hK K)
            refine wpG_nil ?_
            go_wp2_with fail
            obtain ⟨d9, o9, hw9⟩ := fut_of (HA3.out.trans HFt.out)
            have y0 := q0 d9 o9
            have y1 := q1 d9 o9
            have y2 := q2 d9 o9
            have y3 := q3 d9 o9
            have y4 := q4 d9 o9
            have y5 := q5 d9 o9
            have y6 := q6 d9 o9
            rw [← hw9] at y0 y1 y2 y3 y4 y5 y6
            clear hw9
            obtain ⟨S, hS⟩ : ∃ S : Nat → Bool, S = fun q => decide (wzt.heap.size ≤ q) := ⟨_, rfl⟩
            have hSl : ∀ q, q < wzt.heap.size → S q = false := fun q hq => by rw [hS]; exact decide_eq_false (by omega)
            have hSh : ∀ q, wzt.heap.size ≤ q → S q = true := fun q hq => by rw [hS]; exact decide_eq_true hq
            clear hS
            have x0 := cell_futS y0 (hSl _ (World.block_lt_of_cell? _ _ y0))
            have x1 := cell_futS y1 (hSl _ (World.block_lt_of_cell? _ _ y1))
            have x2 := cell_futS y2 (hSl _ (World.block_lt_of_cell? _ _ y2))
            have x3 := cell_futS y3 (hSl _ (World.block_lt_of_cell? _ _ y3))
            have x4 := cell_futS y4 (hSl _ (World.block_lt_of_cell? _ _ y4))
            have x5 := cell_futS y5 (hSl _ (World.block_lt_of_cell? _ _ y5))
            have x6 := cell_futS y6 (hSl _ (World.block_lt_of_cell? _ _ y6))
            refine wp_region_MG (relS S) o_emendatelaw35_ColumnsLocal_8 (by kernel_rfl) (by kernel_rfl) (by intro c a d v w h; cases d <;> exact h) ?_; unfold o_emendatelaw35_ColumnsLocal_8
            iterate 9 (refine wpS_h rfl rfl (fun K hK => ?_); go_simp; refine hK _ _ ?_; clear hK K)
            generalize hZC : (if zc = k then Z else Option.map (fun x => x.add k) Z) = ZC
            generalize hXC : (if xc = k then X else Option.map (fun x => x.add k) X) = XC
            have HZC := Lib.hid (show cutA Z zc k 1 = ZC from by rw [← hZC]; simp [cutA])
            have HXC := Lib.hid (show cutA X xc k 1 = XC from by rw [← hXC]; simp [cutA])
            clear hZC hXC
            have HOR := Lib.hid (fun w' (a1 : Rd1 w' Z (.int .i64 ·) ks) (a2 : RdX w' X xs) a3 a4 a5 => of_anyq ZC (n - k) (zc - k) (ks.drop k) XC (m - k) (xc - k) (xs.drop k) A1 n1 c1 A2 n2 c2 A3 n3 c3 s u ins del rep w' (by have := HLS.out.1; simp; omega) (by omega) (by have := HLS.out.2.1; simp; omega) (by unfold maxLen; omega) HLS.out.2.2.1 HLS.out.2.2.2.1 HLS.out.2.2.2.2 (by omega) HBS.out.1 HBS.out.2.1 (by rw [← HZC.out]; exact Rd1.cutLow a1 (by have := HLS.out.1; have := HBS.out.2.2.1; omega) k) (by rw [← HXC.out]; exact RdX.cutLow a2 (by have := HLS.out.2.1; have := HBS.out.2.2.2.1; omega) k) a3 a4 a5)
            have HER := Lib.hid (of_drop HE.out (by rw [HLS.out.1, HLS.out.2.1, HMN.out]) k)
            refine wpG_two rfl rfl (fun K hK => ?_) (fun K hK => ?_)
            · go_simp
              go_at_call 15
              refine (HOR.out _ (HZ.out.fut (((HA3.out.trans HFt.out)).trans (Fut.refl wzt).drew)) (HX.out.fut (((HA3.out.trans HFt.out)).trans (Fut.refl wzt).drew)) (R1.out.fut (((HA3.out.trans HFt.out)).trans (Fut.refl wzt).drew)) (R2.out.fut (((HA3.out.trans HFt.out)).trans (Fut.refl wzt).drew)) (R3.out.fut (((HA3.out.trans HFt.out)).trans (Fut.refl wzt).drew))).mono ?_
              rintro e wr ⟨hr, hb⟩
              obtain ⟨rA, rc, rcols, rfl, hkey, hrd, hlo1, hlo2, hcut, hcap1, hcap2⟩ := hr.2 HER.out
              refine hK _ _ (.inr ((relS S).of_fut hb)) ?_
              clear hK K
              have HKr := Lib.hid hkey
              have HNr := Lib.hid (show rA = none → (n - k) = 0 ∧ rc = 0 from fun e9 => by
                rcases hcut with h9 | ⟨b9, o9, h9⟩
                · exact h9
                · rw [e9] at h9; cases h9)
              clear hcut hcap1 hcap2
              have hG : Fut wzt (wr.alloc (.cells #[.slice none 0 0, .slice none 0 0, .int .i64 0] 25)) := ((Fut.refl wzt).drew.trans hb).alloc _
              iterate 3 (refine wpS_h rfl rfl (fun K hK => ?_); go_simp; refine hK _ _ ?_; clear hK K)
              refine wpG_o rfl rfl (fun K hK => ?_)
              go_simp
              refine hK _ _ (.inr ((relS S).of_fut ((Fut.refl _).alloc _))) ?_
              clear hK K
              obtain ⟨br, hbb⟩ : ∃ q, q = wr.heap.size := ⟨_, rfl⟩
              rw [← hbb]
              have HCr := Lib.hid (show CelI (wr.alloc (.cells #[.slice none 0 0, .slice none 0 0, .int .i64 0] 25)) br (.slice none 0 0) (.slice none 0 0) (.int .i64 0) from heap_new' _ _ _ hbb)
              have HBr := Lib.hid (show wzt.heap.size ≤ br from by rw [hbb]; exact ((Fut.refl wzt).drew.trans hb).size)
              have HGr := Lib.hid hG
              have HDr := Lib.hid hrd
              have HLr := Lib.hid (And.intro (show Fut wr (wr.alloc (.cells #[.slice none 0 0, .slice none 0 0, .int .i64 0] 25)) from (Fut.refl wr).alloc _) (show wr.heap.size ≤ br from by omega))
              clear hr hb hkey hrd hG hbb hlo1 hlo2
              generalize wr.alloc (.cells #[.slice none 0 0, .slice none 0 0, .int .i64 0] 25) = wsr at *
              refine wpG_o rfl rfl (fun K hK => ?_)
              have z0 := HCr.out.c0
              have z1 := HCr.out.c1
              have z2 := HCr.out.c2
              have z3 := HCr.out.fz 0
              have z4 := HCr.out.fz 1
              have z5 := HCr.out.fz 2
              go_simp
              refine hK _ _ (.inr ((relS S).trans (futS_set _ _ _ (hSh _ HBr.out)) ((relS S).trans (futS_set _ _ _ (hSh _ HBr.out)) (futS_set _ _ _ (hSh _ HBr.out))))) ?_
              clear hK K z0 z1 z2 z3 z4 z5
              have HIr := Lib.hid (HCr.out.sets (.slice rA (n - k) rc) (.slice A1 n1 c1) (.int .i64 s))
              have HFr := Lib.hid (show Fut wzt (((wsr.setCell ⟨br, 0, none⟩ (.slice rA (n - k) rc)).setCell ⟨br, 1, none⟩ (.slice A1 n1 c1)).setCell ⟨br, 2, none⟩ (.int .i64 s)) from sets_fut HGr.out HBr.out _ _ _)
              have HRr := Lib.hid (show RdC (((wsr.setCell ⟨br, 0, none⟩ (.slice rA (n - k) rc)).setCell ⟨br, 1, none⟩ (.slice A1 n1 c1)).setCell ⟨br, 2, none⟩ (.int .i64 s)) rA rcols from HDr.out.fut (sets_fut HLr.out.1 HLr.out.2 _ _ _))
              generalize (((wsr.setCell ⟨br, 0, none⟩ (.slice rA (n - k) rc)).setCell ⟨br, 1, none⟩ (.slice A1 n1 c1)).setCell ⟨br, 2, none⟩ (.int .i64 s)) = wzr at *
              clear HCr HGr HDr HLr hSl hSh x0 x1 x2 x3 x4 x5 x6 y0 y1 y2 y3 y4 y5 y6
              (refine wpS_h rfl rfl (fun K hK => ?_); go_simp; refine hK _ _ ?_; clear hK K)
              refine wpG_nil ?_
              go_wp2_with fail
              obtain ⟨S, hS⟩ : ∃ S : Nat → Bool, S = fun q => decide (wzr.heap.size ≤ q) := ⟨_, rfl⟩
              have hSl : ∀ q, q < wzr.heap.size → S q = false := fun q hq => by rw [hS]; exact decide_eq_false (by omega)
              have hSo : ∀ q, wzr.heap.size ≤ q → S q = true := fun q hq => by rw [hS]; exact decide_eq_true hq
              clear hS
              have i0 := (HIA.out.fut (HFt.out.trans HFr.out)).c0
              have i1 := (HIt.out.fut HFr.out).c0
              have i2 := HIr.out.c0
              have x0 := cell_futS i0 (hSl _ (World.block_lt_of_cell? _ _ i0))
              have x1 := cell_futS i1 (hSl _ (World.block_lt_of_cell? _ _ i1))
              have x2 := cell_futS i2 (hSl _ (World.block_lt_of_cell? _ _ i2))
              clear i0 i1 i2
              refine wp_region_MG (relS S) o_emendatelaw35_ColumnsLocal_9 (by kernel_rfl) (by kernel_rfl) (by intro c a d v w h; cases d <;> exact h) ?_; unfold o_emendatelaw35_ColumnsLocal_9
              refine wpG_o rfl rfl (fun K hK => ?_)
              go_simp
              go_at_call 10
              refine (awake_any _).mono ?_
              rintro e w9 ⟨rfl, hb9⟩
              have f9 : Fut wzr w9 := (Fut.refl wzr).drew.trans hb9
              refine hK _ _ (.inr ((relS S).of_fut hb9)) ?_
              clear hK K hb9
              iterate 15 (refine wpS_h rfl rfl (fun K hK => ?_); go_simp; refine hK _ _ ?_; clear hK K)
              refine wpG_o rfl rfl (fun K hK => ?_)
              go_simp
              go_at_K
              refine hK _ _ (.inr ((relS S).of_fut ((Fut.refl _).alloc _))) ?_
              clear hK K
              have hm0 : (w9.alloc (.cells #[] 51)).ownsRow w9.heap.size 51 3 (.slice (some ⟨w9.heap.size, 0, none⟩) 0 0) 0 (([] : List CC).flatMap encC) := made_cols w9
              have fo0 : Fut w9 (w9.alloc (.cells #[] 51)) := (Fut.refl w9).alloc _
              have hSo9 : ∀ q, w9.heap.size ≤ q → S q = true := fun q hq => hSo q (Nat.le_trans f9.size hq)
              refine wpG_o rfl rfl (fun K hK => ?_)
              refine wpo_append_cols (.tmp 95) (.tmp 97) rfl w9.heap.size _ 0 [] rfl hm0 tA k tc tcols rfl (by have h9 := congrArg List.length HKt.out; have := HLS.out.1; simp [ofK] at h9; omega) (by omega) (by omega) HNt.out ((HRt.out.fut (HFr.out.trans f9)).fut fo0).1 fo0.size ?_
              intro v5 w10 hn5 hg5
              refine hK _ _ (.inr (futS_own hm0 hg5 hSo9)) ?_
              clear hK K
              have fo5 : Fut w9 w10 := Below.grown fo0 hg5 fo0.size (fun q hq => (World.ownsRow.lt hm0 q hq).1)
              refine wpG_o rfl rfl (fun K hK => ?_)
              refine wpo_append_cols (.tmp 98) (.tmp 100) rfl w9.heap.size v5 _ _ rfl hn5 rA (n - k) rc rcols rfl (by have h9 := congrArg List.length HKr.out; have := HLS.out.1; simp [ofK] at h9; omega) (by omega) (by omega) HNr.out ((HRr.out.fut f9).fut fo5).1 fo5.size ?_
              intro v6 w11 hn6 hg6
              refine hK _ _ (.inr (futS_own hn5 hg6 hSo9)) ?_
              clear hK K
              have fo6 : Fut w9 w11 := Below.grown fo5 hg6 fo5.size (fun q hq => (World.ownsRow.lt hn5 q hq).1)
              rw [show 0 + k + (n - k) = n by omega, List.nil_append] at hn6
              have hv6 : ∃ RB Rd, v6 = .slice RB n Rd := by
                rcases hn6.2 with ⟨h, h0⟩ | ⟨g, cap, cur, h, _⟩
                · exact ⟨none, 0, by rw [h, h0]⟩
                · exact ⟨_, _, h⟩
              obtain ⟨RB, Rd, rfl⟩ := hv6
              have HRB := Lib.hid (show RdC w11 RB (tcols ++ rcols) from by
                refine ⟨RdS.of_own encC_len (by decide) hn6, fun e he => ?_⟩
                rcases List.mem_append.1 he with he | he
                · exact (HRt.out.fut ((HFr.out.trans f9).trans fo6)).2 e he
                · exact (HRr.out.fut (f9.trans fo6)).2 e he)
              have HF11 := Lib.hid (show Fut w5 w11 from HFt.out.trans (HFr.out.trans (f9.trans fo6)))
              have HKK := Lib.hid (show cols.map key = (tcols ++ rcols).map key from by
                rw [List.map_append, HKEY.out, HKt.out, HKr.out]
                exact ofK_split n1 k (by have := HLS.out.1; omega))
              have hncols : cols.length = n := by
                have h9 := congrArg List.length HKEY.out
                simp only [ofK, List.length_map, List.length_range] at h9
                rw [h9]; exact HLS.out.1
              have HNC := Lib.hid hncols
              clear hm0 hn5 hn6 hg5 hg6 fo0 fo5 fo6 f9 hSo9 x0 x1 x2 hSl hSo hncols
              refine wpG_o rfl rfl (fun K hK => ?_)
              go_simp
              go_at_call 18
              refine (sameCols_eq A RB n c Rd cols (tcols ++ rcols) w11 HNC.out (by unfold maxLen; omega) HKK.out (HRA.out.fut HF11.out) HRB.out).mono ?_
              rintro e w12 ⟨rfl, hb12⟩
              have HF12 := Lib.hid (show Fut w5 w12 from HF11.out.trans hb12)
              refine hK _ _ (.inr ((relS S).of_fut hb12)) ?_
              clear hK K hb12
              iterate 2 (refine wpS_h rfl rfl (fun K hK => ?_); go_simp; refine hK _ _ ?_; clear hK K)
              refine wpG_nil ?_
              go_wp2_with fail
              go_ret
              exact ⟨rfl, HW.out.trans (HA3.out.trans HF12.out)⟩
            · go_simp
              refine hK _ _ (.inr ((relS S).of_fut ((Fut.refl _).alloc _))) ?_
              clear hK K
              refine wpG_o rfl rfl (fun K hK => ?_)
              go_simp
              go_at_call 15
              refine (HOR.out _ (HZ.out.fut (((HA3.out.trans HFt.out)).trans (((Fut.refl wzt).alloc _).drew))) (HX.out.fut (((HA3.out.trans HFt.out)).trans (((Fut.refl wzt).alloc _).drew))) (R1.out.fut (((HA3.out.trans HFt.out)).trans (((Fut.refl wzt).alloc _).drew))) (R2.out.fut (((HA3.out.trans HFt.out)).trans (((Fut.refl wzt).alloc _).drew))) (R3.out.fut (((HA3.out.trans HFt.out)).trans (((Fut.refl wzt).alloc _).drew)))).mono ?_
              rintro e wr ⟨hr, hb⟩
              obtain ⟨rA, rc, rcols, rfl, hkey, hrd, hlo1, hlo2, hcut, hcap1, hcap2⟩ := hr.2 HER.out
              refine hK _ _ (.inr ((relS S).of_fut hb)) ?_
              clear hK K
              have HKr := Lib.hid hkey
              have HNr := Lib.hid (show rA = none → (n - k) = 0 ∧ rc = 0 from fun e9 => by
                rcases hcut with h9 | ⟨b9, o9, h9⟩
                · exact h9
                · rw [e9] at h9; cases h9)
              clear hcut hcap1 hcap2
              have hG : Fut wzt wr := (((Fut.refl wzt).alloc (.cells #[.slice none 0 0, .slice none 0 0, .int .i64 0] 25)).drew).trans hb
              iterate 3 (refine wpS_h rfl rfl (fun K hK => ?_); go_simp; refine hK _ _ ?_; clear hK K)
              obtain ⟨br, hbb⟩ : ∃ q, q = wzt.heap.size := ⟨_, rfl⟩
              rw [← hbb]
              have HCr := Lib.hid (show CelI wr br (.slice none 0 0) (.slice none 0 0) (.int .i64 0) from CelI.fut (show CelI (wzt.alloc (.cells #[.slice none 0 0, .slice none 0 0, .int .i64 0] 25)).drew br _ _ _ from heap_new' _ _ _ hbb) hb)
              have HBr := Lib.hid (show wzt.heap.size ≤ br from by omega)
              have HGr := Lib.hid hG
              have HDr := Lib.hid hrd
              have hsz9 : (wzt.alloc (.cells #[.slice none 0 0, .slice none 0 0, .int .i64 0] 25)).drew.heap.size = wzt.heap.size + 1 := by show (wzt.alloc _).heap.size = _; rw [World.size_alloc]
              have HLr := Lib.hid (And.intro (show ∀ b o q, rA = some ⟨b, o, q⟩ → b ≠ br from fun b o q e9 => by have := hlo1 b o q e9; omega) (show ∀ y ∈ rcols, ∀ b o q, y.A = some ⟨b, o, q⟩ → b ≠ br from fun y hy b o q e9 => by have := hlo2 y hy b o q e9; omega))
              clear hr hb hkey hrd hG hbb hlo1 hlo2 hsz9
              obtain ⟨wsr, rfl⟩ : ∃ q, q = wr := ⟨_, rfl⟩
              refine wpG_o rfl rfl (fun K hK => ?_)
              have z0 := HCr.out.c0
              have z1 := HCr.out.c1
              have z2 := HCr.out.c2
              have z3 := HCr.out.fz 0
              have z4 := HCr.out.fz 1
              have z5 := HCr.out.fz 2
              go_simp
              refine hK _ _ (.inr ((relS S).trans (futS_set _ _ _ (hSh _ HBr.out)) ((relS S).trans (futS_set _ _ _ (hSh _ HBr.out)) (futS_set _ _ _ (hSh _ HBr.out))))) ?_
              clear hK K z0 z1 z2 z3 z4 z5
              have HIr := Lib.hid (HCr.out.sets (.slice rA (n - k) rc) (.slice A1 n1 c1) (.int .i64 s))
              have HFr := Lib.hid (show Fut wzt (((wsr.setCell ⟨br, 0, none⟩ (.slice rA (n - k) rc)).setCell ⟨br, 1, none⟩ (.slice A1 n1 c1)).setCell ⟨br, 2, none⟩ (.int .i64 s)) from sets_fut HGr.out HBr.out _ _ _)
              have HRr := Lib.hid (show RdC (((wsr.setCell ⟨br, 0, none⟩ (.slice rA (n - k) rc)).setCell ⟨br, 1, none⟩ (.slice A1 n1 c1)).setCell ⟨br, 2, none⟩ (.int .i64 s)) rA rcols from rdc_far HDr.out HLr.out.1 HLr.out.2 _ _ _)
              generalize (((wsr.setCell ⟨br, 0, none⟩ (.slice rA (n - k) rc)).setCell ⟨br, 1, none⟩ (.slice A1 n1 c1)).setCell ⟨br, 2, none⟩ (.int .i64 s)) = wzr at *
              clear HCr HGr HDr HLr hSl hSh x0 x1 x2 x3 x4 x5 x6 y0 y1 y2 y3 y4 y5 y6
              (refine wpS_h rfl rfl (fun K hK => ?_); go_simp; refine hK _ _ ?_; clear hK K)
              refine wpG_nil ?_
              go_wp2_with fail
              obtain ⟨S, hS⟩ : ∃ S : Nat → Bool, S = fun q => decide (wzr.heap.size ≤ q) := ⟨_, rfl⟩
              have hSl : ∀ q, q < wzr.heap.size → S q = false := fun q hq => by rw [hS]; exact decide_eq_false (by omega)
              have hSo : ∀ q, wzr.heap.size ≤ q → S q = true := fun q hq => by rw [hS]; exact decide_eq_true hq
              clear hS
              have i0 := (HIA.out.fut (HFt.out.trans HFr.out)).c0
              have i1 := (HIt.out.fut HFr.out).c0
              have i2 := HIr.out.c0
              have x0 := cell_futS i0 (hSl _ (World.block_lt_of_cell? _ _ i0))
              have x1 := cell_futS i1 (hSl _ (World.block_lt_of_cell? _ _ i1))
              have x2 := cell_futS i2 (hSl _ (World.block_lt_of_cell? _ _ i2))
              clear i0 i1 i2
              refine wp_region_MG (relS S) o_emendatelaw35_ColumnsLocal_9 (by kernel_rfl) (by kernel_rfl) (by intro c a d v w h; cases d <;> exact h) ?_; unfold o_emendatelaw35_ColumnsLocal_9
              refine wpG_o rfl rfl (fun K hK => ?_)
              go_simp
              go_at_call 10
              refine (awake_any _).mono ?_
              rintro e w9 ⟨rfl, hb9⟩
              have f9 : Fut wzr w9 := (Fut.refl wzr).drew.trans hb9
              refine hK _ _ (.inr ((relS S).of_fut hb9)) ?_
              clear hK K hb9
              iterate 15 (refine wpS_h rfl rfl (fun K hK => ?_); go_simp; refine hK _ _ ?_; clear hK K)
              refine wpG_o rfl rfl (fun K hK => ?_)
              go_simp
              go_at_K
              refine hK _ _ (.inr ((relS S).of_fut ((Fut.refl _).alloc _))) ?_
              clear hK K
              have hm0 : (w9.alloc (.cells #[] 51)).ownsRow w9.heap.size 51 3 (.slice (some ⟨w9.heap.size, 0, none⟩) 0 0) 0 (([] : List CC).flatMap encC) := made_cols w9
              have fo0 : Fut w9 (w9.alloc (.cells #[] 51)) := (Fut.refl w9).alloc _
              have hSo9 : ∀ q, w9.heap.size ≤ q → S q = true := fun q hq => hSo q (Nat.le_trans f9.size hq)
              refine wpG_o rfl rfl (fun K hK => ?_)
              refine wpo_append_cols (.tmp 95) (.tmp 97) rfl w9.heap.size _ 0 [] rfl hm0 tA k tc tcols rfl (by have h9 := congrArg List.length HKt.out; have := HLS.out.1; simp [ofK] at h9; omega) (by omega) (by omega) HNt.out ((HRt.out.fut (HFr.out.trans f9)).fut fo0).1 fo0.size ?_
              intro v5 w10 hn5 hg5
              refine hK _ _ (.inr (futS_own hm0 hg5 hSo9)) ?_
              clear hK K
              have fo5 : Fut w9 w10 := Below.grown fo0 hg5 fo0.size (fun q hq => (World.ownsRow.lt hm0 q hq).1)
              refine wpG_o rfl rfl (fun K hK => ?_)
              refine wpo_append_cols (.tmp 98) (.tmp 100) rfl w9.heap.size v5 _ _ rfl hn5 rA (n - k) rc rcols rfl (by have h9 := congrArg List.length HKr.out; have := HLS.out.1; simp [ofK] at h9; omega) (by omega) (by omega) HNr.out ((HRr.out.fut f9).fut fo5).1 fo5.size ?_
              intro v6 w11 hn6 hg6
              refine hK _ _ (.inr (futS_own hn5 hg6 hSo9)) ?_
              clear hK K
              have fo6 : Fut w9 w11 := Below.grown fo5 hg6 fo5.size (fun q hq => (World.ownsRow.lt hn5 q hq).1)
              rw [show 0 + k + (n - k) = n by omega, List.nil_append] at hn6
              have hv6 : ∃ RB Rd, v6 = .slice RB n Rd := by
                rcases hn6.2 with ⟨h, h0⟩ | ⟨g, cap, cur, h, _⟩
                · exact ⟨none, 0, by rw [h, h0]⟩
                · exact ⟨_, _, h⟩
              obtain ⟨RB, Rd, rfl⟩ := hv6
              have HRB := Lib.hid (show RdC w11 RB (tcols ++ rcols) from by
                refine ⟨RdS.of_own encC_len (by decide) hn6, fun e he => ?_⟩
                rcases List.mem_append.1 he with he | he
                · exact (HRt.out.fut ((HFr.out.trans f9).trans fo6)).2 e he
                · exact (HRr.out.fut (f9.trans fo6)).2 e he)
              have HF11 := Lib.hid (show Fut w5 w11 from HFt.out.trans (HFr.out.trans (f9.trans fo6)))
              have HKK := Lib.hid (show cols.map key = (tcols ++ rcols).map key from by
                rw [List.map_append, HKEY.out, HKt.out, HKr.out]
                exact ofK_split n1 k (by have := HLS.out.1; omega))
              have hncols : cols.length = n := by
                have h9 := congrArg List.length HKEY.out
                simp only [ofK, List.length_map, List.length_range] at h9
                rw [h9]; exact HLS.out.1
              have HNC := Lib.hid hncols
              clear hm0 hn5 hn6 hg5 hg6 fo0 fo5 fo6 f9 hSo9 x0 x1 x2 hSl hSo hncols
              refine wpG_o rfl rfl (fun K hK => ?_)
              go_simp
              go_at_call 18
              refine (sameCols_eq A RB n c Rd cols (tcols ++ rcols) w11 HNC.out (by unfold maxLen; omega) HKK.out (HRA.out.fut HF11.out) HRB.out).mono ?_
              rintro e w12 ⟨rfl, hb12⟩
              have HF12 := Lib.hid (show Fut w5 w12 from HF11.out.trans hb12)
              refine hK _ _ (.inr ((relS S).of_fut hb12)) ?_
              clear hK K hb12
              iterate 2 (refine wpS_h rfl rfl (fun K hK => ?_); go_simp; refine hK _ _ ?_; clear hK K)
              refine wpG_nil ?_
              go_wp2_with fail
              go_ret
              exact ⟨rfl, HW.out.trans (HA3.out.trans HF12.out)⟩
          · go_simp
            refine hK _ _ (.inr ((relS S).of_fut ((Fut.refl _).alloc _))) ?_
            clear hK K
            refine wpG_o rfl rfl (fun K hK => ?_)
            go_simp
            go_at_call 15
            refine (HOT.out _ (HZ.out.fut ((HA3.out).trans (((Fut.refl w5).alloc _).drew))) (HX.out.fut ((HA3.out).trans (((Fut.refl w5).alloc _).drew))) (R1.out.fut ((HA3.out).trans (((Fut.refl w5).alloc _).drew))) (R2.out.fut ((HA3.out).trans (((Fut.refl w5).alloc _).drew))) (R3.out.fut ((HA3.out).trans (((Fut.refl w5).alloc _).drew)))).mono ?_
            rintro e wt ⟨hr, hb⟩
            obtain ⟨tA, tc, tcols, rfl, hkey, hrd, hlo1, hlo2, hcut, hcap1, hcap2⟩ := hr.2 HET.out
            refine hK _ _ (.inr ((relS S).of_fut hb)) ?_
            clear hK K
            have HKt := Lib.hid hkey
            have HNt := Lib.hid (show tA = none → k = 0 ∧ tc = 0 from fun e9 => by
              rcases hcut with h9 | ⟨b9, o9, h9⟩
              · exact h9
              · rw [e9] at h9; cases h9)
            clear hcut hcap1 hcap2
            have hG : Fut w5 wt := (((Fut.refl w5).alloc (.cells #[.slice none 0 0, .slice none 0 0, .int .i64 0] 25)).drew).trans hb
            iterate 3 (refine wpS_h rfl rfl (fun K hK => ?_); go_simp; refine hK _ _ ?_; clear hK K)
            obtain ⟨bt, hbb⟩ : ∃ q, q = w5.heap.size := ⟨_, rfl⟩
            rw [← hbb]
            have HCt := Lib.hid (show CelI wt bt (.slice none 0 0) (.slice none 0 0) (.int .i64 0) from CelI.fut (show CelI (w5.alloc (.cells #[.slice none 0 0, .slice none 0 0, .int .i64 0] 25)).drew bt _ _ _ from heap_new' _ _ _ hbb) hb)
            have HBt := Lib.hid (show w5.heap.size ≤ bt from by omega)
            have HGt := Lib.hid hG
            have HDt := Lib.hid hrd
            have hsz9 : (w5.alloc (.cells #[.slice none 0 0, .slice none 0 0, .int .i64 0] 25)).drew.heap.size = w5.heap.size + 1 := by show (w5.alloc _).heap.size = _; rw [World.size_alloc]
            have HLt := Lib.hid (And.intro (show ∀ b o q, tA = some ⟨b, o, q⟩ → b ≠ bt from fun b o q e9 => by have := hlo1 b o q e9; omega) (show ∀ y ∈ tcols, ∀ b o q, y.A = some ⟨b, o, q⟩ → b ≠ bt from fun y hy b o q e9 => by have := hlo2 y hy b o q e9; omega))
            clear hr hb hkey hrd hG hbb hlo1 hlo2 hsz9
            obtain ⟨wst, rfl⟩ : ∃ q, q = wt := ⟨_, rfl⟩
            refine wpG_o rfl rfl (fun K hK => ?_)
            have z0 := HCt.out.c0
            have z1 := HCt.out.c1
            have z2 := HCt.out.c2
            have z3 := HCt.out.fz 0
            have z4 := HCt.out.fz 1
            have z5 := HCt.out.fz 2
            go_simp
            refine hK _ _ (.inr ((relS S).trans (futS_set _ _ _ (hSh _ HBt.out)) ((relS S).trans (futS_set _ _ _ (hSh _ HBt.out)) (futS_set _ _ _ (hSh _ HBt.out))))) ?_
            clear hK K z0 z1 z2 z3 z4 z5
            have HIt := Lib.hid (HCt.out.sets (.slice tA k tc) (.slice A1 n1 c1) (.int .i64 s))
            have HFt := Lib.hid (show Fut w5 (((wst.setCell ⟨bt, 0, none⟩ (.slice tA k tc)).setCell ⟨bt, 1, none⟩ (.slice A1 n1 c1)).setCell ⟨bt, 2, none⟩ (.int .i64 s)) from sets_fut HGt.out HBt.out _ _ _)
            have HRt := Lib.hid (show RdC (((wst.setCell ⟨bt, 0, none⟩ (.slice tA k tc)).setCell ⟨bt, 1, none⟩ (.slice A1 n1 c1)).setCell ⟨bt, 2, none⟩ (.int .i64 s)) tA tcols from rdc_far HDt.out HLt.out.1 HLt.out.2 _ _ _)
            generalize (((wst.setCell ⟨bt, 0, none⟩ (.slice tA k tc)).setCell ⟨bt, 1, none⟩ (.slice A1 n1 c1)).setCell ⟨bt, 2, none⟩ (.int .i64 s)) = wzt at *
            clear HCt HGt HDt HLt hSl hSh x0 x1 x2 x3 x4 x5 x6 y0 y1 y2 y3 y4 y5 y6
            (refine wpS_h rfl rfl (fun K hK => ?_); go_simp; refine hK _ _ ?_; clear hK K)
            refine wpG_nil ?_
            go_wp2_with fail
            obtain ⟨d9, o9, hw9⟩ := fut_of (HA3.out.trans HFt.out)
            have y0 := q0 d9 o9
            have y1 := q1 d9 o9
            have y2 := q2 d9 o9
            have y3 := q3 d9 o9
            have y4 := q4 d9 o9
            have y5 := q5 d9 o9
            have y6 := q6 d9 o9
            rw [← hw9] at y0 y1 y2 y3 y4 y5 y6
            clear hw9
            obtain ⟨S, hS⟩ : ∃ S : Nat → Bool, S = fun q => decide (wzt.heap.size ≤ q) := ⟨_, rfl⟩
            have hSl : ∀ q, q < wzt.heap.size → S q = false := fun q hq => by rw [hS]; exact decide_eq_false (by omega)
            have hSh : ∀ q, wzt.heap.size ≤ q → S q = true := fun q hq => by rw [hS]; exact decide_eq_true hq
            clear hS
            have x0 := cell_futS y0 (hSl _ (World.block_lt_of_cell? _ _ y0))
            have x1 := cell_futS y1 (hSl _ (World.block_lt_of_cell? _ _ y1))
            have x2 := cell_futS y2 (hSl _ (World.block_lt_of_cell? _ _ y2))
            have x3 := cell_futS y3 (hSl _ (World.block_lt_of_cell? _ _ y3))
            have x4 := cell_futS y4 (hSl _ (World.block_lt_of_cell? _ _ y4))
            have x5 := cell_futS y5 (hSl _ (World.block_lt_of_cell? _ _ y5))
            have x6 := cell_futS y6 (hSl _ (World.block_lt_of_cell? _ _ y6))
            refine wp_region_MG (relS S) o_emendatelaw35_ColumnsLocal_8 (by kernel_rfl) (by kernel_rfl) (by intro c a d v w h; cases d <;> exact h) ?_; unfold o_emendatelaw35_ColumnsLocal_8
            iterate 9 (refine wpS_h rfl rfl (fun K hK => ?_); go_simp; refine hK _ _ ?_; clear hK K)
            generalize hZC : (if zc = k then Z else Option.map (fun x => x.add k) Z) = ZC
            generalize hXC : (if xc = k then X else Option.map (fun x => x.add k) X) = XC
            have HZC := Lib.hid (show cutA Z zc k 1 = ZC from by rw [← hZC]; simp [cutA])
            have HXC := Lib.hid (show cutA X xc k 1 = XC from by rw [← hXC]; simp [cutA])
            clear hZC hXC
            have HOR := Lib.hid (fun w' (a1 : Rd1 w' Z (.int .i64 ·) ks) (a2 : RdX w' X xs) a3 a4 a5 => of_anyq ZC (n - k) (zc - k) (ks.drop k) XC (m - k) (xc - k) (xs.drop k) A1 n1 c1 A2 n2 c2 A3 n3 c3 s u ins del rep w' (by have := HLS.out.1; simp; omega) (by omega) (by have := HLS.out.2.1; simp; omega) (by unfold maxLen; omega) HLS.out.2.2.1 HLS.out.2.2.2.1 HLS.out.2.2.2.2 (by omega) HBS.out.1 HBS.out.2.1 (by rw [← HZC.out]; exact Rd1.cutLow a1 (by have := HLS.out.1; have := HBS.out.2.2.1; omega) k) (by rw [← HXC.out]; exact RdX.cutLow a2 (by have := HLS.out.2.1; have := HBS.out.2.2.2.1; omega) k) a3 a4 a5)
            have HER := Lib.hid (of_drop HE.out (by rw [HLS.out.1, HLS.out.2.1, HMN.out]) k)
            refine wpG_two rfl rfl (fun K hK => ?_) (fun K hK => ?_)
            · go_simp
              go_at_call 15
              refine (HOR.out _ (HZ.out.fut (((HA3.out.trans HFt.out)).trans (Fut.refl wzt).drew)) (HX.out.fut (((HA3.out.trans HFt.out)).trans (Fut.refl wzt).drew)) (R1.out.fut (((HA3.out.trans HFt.out)).trans (Fut.refl wzt).drew)) (R2.out.fut (((HA3.out.trans HFt.out)).trans (Fut.refl wzt).drew)) (R3.out.fut (((HA3.out.trans HFt.out)).trans (Fut.refl wzt).drew))).mono ?_
              rintro e wr ⟨hr, hb⟩
              obtain ⟨rA, rc, rcols, rfl, hkey, hrd, hlo1, hlo2, hcut, hcap1, hcap2⟩ := hr.2 HER.out
              refine hK _ _ (.inr ((relS S).of_fut hb)) ?_
              clear hK K
              have HKr := Lib.hid hkey
              have HNr := Lib.hid (show rA = none → (n - k) = 0 ∧ rc = 0 from fun e9 => by
                rcases hcut with h9 | ⟨b9, o9, h9⟩
                · exact h9
                · rw [e9] at h9; cases h9)
              clear hcut hcap1 hcap2
              have hG : Fut wzt (wr.alloc (.cells #[.slice none 0 0, .slice none 0 0, .int .i64 0] 25)) := ((Fut.refl wzt).drew.trans hb).alloc _
              iterate 3 (refine wpS_h rfl rfl (fun K hK => ?_); go_simp; refine hK _ _ ?_; clear hK K)
              refine wpG_o rfl rfl (fun K hK => ?_)
              go_simp
              refine hK _ _ (.inr ((relS S).of_fut ((Fut.refl _).alloc _))) ?_
              clear hK K
              obtain ⟨br, hbb⟩ : ∃ q, q = wr.heap.size := ⟨_, rfl⟩
              rw [← hbb]
              have HCr := Lib.hid (show CelI (wr.alloc (.cells #[.slice none 0 0, .slice none 0 0, .int .i64 0] 25)) br (.slice none 0 0) (.slice none 0 0) (.int .i64 0) from heap_new' _ _ _ hbb)
              have HBr := Lib.hid (show wzt.heap.size ≤ br from by rw [hbb]; exact ((Fut.refl wzt).drew.trans hb).size)
              have HGr := Lib.hid hG
              have HDr := Lib.hid hrd
              have HLr := Lib.hid (And.intro (show Fut wr (wr.alloc (.cells #[.slice none 0 0, .slice none 0 0, .int .i64 0] 25)) from (Fut.refl wr).alloc _) (show wr.heap.size ≤ br from by omega))
              clear hr hb hkey hrd hG hbb hlo1 hlo2
              generalize wr.alloc (.cells #[.slice none 0 0, .slice none 0 0, .int .i64 0] 25) = wsr at *
              refine wpG_o rfl rfl (fun K hK => ?_)
              have z0 := HCr.out.c0
              have z1 := HCr.out.c1
              have z2 := HCr.out.c2
              have z3 := HCr.out.fz 0
              have z4 := HCr.out.fz 1
              have z5 := HCr.out.fz 2
              go_simp
              refine hK _ _ (.inr ((relS S).trans (futS_set _ _ _ (hSh _ HBr.out)) ((relS S).trans (futS_set _ _ _ (hSh _ HBr.out)) (futS_set _ _ _ (hSh _ HBr.out))))) ?_
              clear hK K z0 z1 z2 z3 z4 z5
              have HIr := Lib.hid (HCr.out.sets (.slice rA (n - k) rc) (.slice A1 n1 c1) (.int .i64 s))
              have HFr := Lib.hid (show Fut wzt (((wsr.setCell ⟨br, 0, none⟩ (.slice rA (n - k) rc)).setCell ⟨br, 1, none⟩ (.slice A1 n1 c1)).setCell ⟨br, 2, none⟩ (.int .i64 s)) from sets_fut HGr.out HBr.out _ _ _)
              have HRr := Lib.hid (show RdC (((wsr.setCell ⟨br, 0, none⟩ (.slice rA (n - k) rc)).setCell ⟨br, 1, none⟩ (.slice A1 n1 c1)).setCell ⟨br, 2, none⟩ (.int .i64 s)) rA rcols from HDr.out.fut (sets_fut HLr.out.1 HLr.out.2 _ _ _))
              generalize (((wsr.setCell ⟨br, 0, none⟩ (.slice rA (n - k) rc)).setCell ⟨br, 1, none⟩ (.slice A1 n1 c1)).setCell ⟨br, 2, none⟩ (.int .i64 s)) = wzr at *
              clear HCr HGr HDr HLr hSl hSh x0 x1 x2 x3 x4 x5 x6 y0 y1 y2 y3 y4 y5 y6
              (refine wpS_h rfl rfl (fun K hK => ?_); go_simp; refine hK _ _ ?_; clear hK K)
              refine wpG_nil ?_
              go_wp2_with fail
              obtain ⟨S, hS⟩ : ∃ S : Nat → Bool, S = fun q => decide (wzr.heap.size ≤ q) := ⟨_, rfl⟩
              have hSl : ∀ q, q < wzr.heap.size → S q = false := fun q hq => by rw [hS]; exact decide_eq_false (by omega)
              have hSo : ∀ q, wzr.heap.size ≤ q → S q = true := fun q hq => by rw [hS]; exact decide_eq_true hq
              clear hS
              have i0 := (HIA.out.fut (HFt.out.trans HFr.out)).c0
              have i1 := (HIt.out.fut HFr.out).c0
              have i2 := HIr.out.c0
              have x0 := cell_futS i0 (hSl _ (World.block_lt_of_cell? _ _ i0))
              have x1 := cell_futS i1 (hSl _ (World.block_lt_of_cell? _ _ i1))
              have x2 := cell_futS i2 (hSl _ (World.block_lt_of_cell? _ _ i2))
              clear i0 i1 i2
              refine wp_region_MG (relS S) o_emendatelaw35_ColumnsLocal_9 (by kernel_rfl) (by kernel_rfl) (by intro c a d v w h; cases d <;> exact h) ?_; unfold o_emendatelaw35_ColumnsLocal_9
              refine wpG_o rfl rfl (fun K hK => ?_)
              go_simp
              go_at_call 10
              refine (awake_any _).mono ?_
              rintro e w9 ⟨rfl, hb9⟩
              have f9 : Fut wzr w9 := (Fut.refl wzr).drew.trans hb9
              refine hK _ _ (.inr ((relS S).of_fut hb9)) ?_
              clear hK K hb9
              iterate 15 (refine wpS_h rfl rfl (fun K hK => ?_); go_simp; refine hK _ _ ?_; clear hK K)
              refine wpG_o rfl rfl (fun K hK => ?_)
              go_simp
              go_at_K
              refine hK _ _ (.inr ((relS S).of_fut ((Fut.refl _).alloc _))) ?_
              clear hK K
              have hm0 : (w9.alloc (.cells #[] 51)).ownsRow w9.heap.size 51 3 (.slice (some ⟨w9.heap.size, 0, none⟩) 0 0) 0 (([] : List CC).flatMap encC) := made_cols w9
              have fo0 : Fut w9 (w9.alloc (.cells #[] 51)) := (Fut.refl w9).alloc _
              have hSo9 : ∀ q, w9.heap.size ≤ q → S q = true := fun q hq => hSo q (Nat.le_trans f9.size hq)
              refine wpG_o rfl rfl (fun K hK => ?_)
              refine wpo_append_cols (.tmp 95) (.tmp 97) rfl w9.heap.size _ 0 [] rfl hm0 tA k tc tcols rfl (by have h9 := congrArg List.length HKt.out; have := HLS.out.1; simp [ofK] at h9; omega) (by omega) (by omega) HNt.out ((HRt.out.fut (HFr.out.trans f9)).fut fo0).1 fo0.size ?_
              intro v5 w10 hn5 hg5
              refine hK _ _ (.inr (futS_own hm0 hg5 hSo9)) ?_
              clear hK K
              have fo5 : Fut w9 w10 := Below.grown fo0 hg5 fo0.size (fun q hq => (World.ownsRow.lt hm0 q hq).1)
              refine wpG_o rfl rfl (fun K hK => ?_)
              refine wpo_append_cols (.tmp 98) (.tmp 100) rfl w9.heap.size v5 _ _ rfl hn5 rA (n - k) rc rcols rfl (by have h9 := congrArg List.length HKr.out; have := HLS.out.1; simp [ofK] at h9; omega) (by omega) (by omega) HNr.out ((HRr.out.fut f9).fut fo5).1 fo5.size ?_
              intro v6 w11 hn6 hg6
              refine hK _ _ (.inr (futS_own hn5 hg6 hSo9)) ?_
              clear hK K
              have fo6 : Fut w9 w11 := Below.grown fo5 hg6 fo5.size (fun q hq => (World.ownsRow.lt hn5 q hq).1)
              rw [show 0 + k + (n - k) = n by omega, List.nil_append] at hn6
              have hv6 : ∃ RB Rd, v6 = .slice RB n Rd := by
                rcases hn6.2 with ⟨h, h0⟩ | ⟨g, cap, cur, h, _⟩
                · exact ⟨none, 0, by rw [h, h0]⟩
                · exact ⟨_, _, h⟩
              obtain ⟨RB, Rd, rfl⟩ := hv6
              have HRB := Lib.hid (show RdC w11 RB (tcols ++ rcols) from by
                refine ⟨RdS.of_own encC_len (by decide) hn6, fun e he => ?_⟩
                rcases List.mem_append.1 he with he | he
                · exact (HRt.out.fut ((HFr.out.trans f9).trans fo6)).2 e he
                · exact (HRr.out.fut (f9.trans fo6)).2 e he)
              have HF11 := Lib.hid (show Fut w5 w11 from HFt.out.trans (HFr.out.trans (f9.trans fo6)))
              have HKK := Lib.hid (show cols.map key = (tcols ++ rcols).map key from by
                rw [List.map_append, HKEY.out, HKt.out, HKr.out]
                exact ofK_split n1 k (by have := HLS.out.1; omega))
              have hncols : cols.length = n := by
                have h9 := congrArg List.length HKEY.out
                simp only [ofK, List.length_map, List.length_range] at h9
                rw [h9]; exact HLS.out.1
              have HNC := Lib.hid hncols
              clear hm0 hn5 hn6 hg5 hg6 fo0 fo5 fo6 f9 hSo9 x0 x1 x2 hSl hSo hncols
              refine wpG_o rfl rfl (fun K hK => ?_)
              go_simp
              go_at_call 18
              refine (sameCols_eq A RB n c Rd cols (tcols ++ rcols) w11 HNC.out (by unfold maxLen; omega) HKK.out (HRA.out.fut HF11.out) HRB.out).mono ?_
              rintro e w12 ⟨rfl, hb12⟩
              have HF12 := Lib.hid (show Fut w5 w12 from HF11.out.trans hb12)
              refine hK _ _ (.inr ((relS S).of_fut hb12)) ?_
              clear hK K hb12
              iterate 2 (refine wpS_h rfl rfl (fun K hK => ?_); go_simp; refine hK _ _ ?_; clear hK K)
              refine wpG_nil ?_
              go_wp2_with fail
              go_ret
              exact ⟨rfl, HW.out.trans (HA3.out.trans HF12.out)⟩
            · go_simp
              refine hK _ _ (.inr ((relS S).of_fut ((Fut.refl _).alloc _))) ?_
              clear hK K
              refine wpG_o rfl rfl (fun K hK => ?_)
              go_simp
              go_at_call 15
              refine (HOR.out _ (HZ.out.fut (((HA3.out.trans HFt.out)).trans (((Fut.refl wzt).alloc _).drew))) (HX.out.fut (((HA3.out.trans HFt.out)).trans (((Fut.refl wzt).alloc _).drew))) (R1.out.fut (((HA3.out.trans HFt.out)).trans (((Fut.refl wzt).alloc _).drew))) (R2.out.fut (((HA3.out.trans HFt.out)).trans (((Fut.refl wzt).alloc _).drew))) (R3.out.fut (((HA3.out.trans HFt.out)).trans (((Fut.refl wzt).alloc _).drew)))).mono ?_
              rintro e wr ⟨hr, hb⟩
              obtain ⟨rA, rc, rcols, rfl, hkey, hrd, hlo1, hlo2, hcut, hcap1, hcap2⟩ := hr.2 HER.out
              refine hK _ _ (.inr ((relS S).of_fut hb)) ?_
              clear hK K
              have HKr := Lib.hid hkey
              have HNr := Lib.hid (show rA = none → (n - k) = 0 ∧ rc = 0 from fun e9 => by
                rcases hcut with h9 | ⟨b9, o9, h9⟩
                · exact h9
                · rw [e9] at h9; cases h9)
              clear hcut hcap1 hcap2
              have hG : Fut wzt wr := (((Fut.refl wzt).alloc (.cells #[.slice none 0 0, .slice none 0 0, .int .i64 0] 25)).drew).trans hb
              iterate 3 (refine wpS_h rfl rfl (fun K hK => ?_); go_simp; refine hK _ _ ?_; clear hK K)
              obtain ⟨br, hbb⟩ : ∃ q, q = wzt.heap.size := ⟨_, rfl⟩
              rw [← hbb]
              have HCr := Lib.hid (show CelI wr br (.slice none 0 0) (.slice none 0 0) (.int .i64 0) from CelI.fut (show CelI (wzt.alloc (.cells #[.slice none 0 0, .slice none 0 0, .int .i64 0] 25)).drew br _ _ _ from heap_new' _ _ _ hbb) hb)
              have HBr := Lib.hid (show wzt.heap.size ≤ br from by omega)
              have HGr := Lib.hid hG
              have HDr := Lib.hid hrd
              have hsz9 : (wzt.alloc (.cells #[.slice none 0 0, .slice none 0 0, .int .i64 0] 25)).drew.heap.size = wzt.heap.size + 1 := by show (wzt.alloc _).heap.size = _; rw [World.size_alloc]
              have HLr := Lib.hid (And.intro (show ∀ b o q, rA = some ⟨b, o, q⟩ → b ≠ br from fun b o q e9 => by have := hlo1 b o q e9; omega) (show ∀ y ∈ rcols, ∀ b o q, y.A = some ⟨b, o, q⟩ → b ≠ br from fun y hy b o q e9 => by have := hlo2 y hy b o q e9; omega))
              clear hr hb hkey hrd hG hbb hlo1 hlo2 hsz9
              obtain ⟨wsr, rfl⟩ : ∃ q, q = wr := ⟨_, rfl⟩
              refine wpG_o rfl rfl (fun K hK => ?_)
              have z0 := HCr.out.c0
              have z1 := HCr.out.c1
              have z2 := HCr.out.c2
              have z3 := HCr.out.fz 0
              have z4 := HCr.out.fz 1
              have z5 := HCr.out.fz 2
              go_simp
              refine hK _ _ (.inr ((relS S).trans (futS_set _ _ _ (hSh _ HBr.out)) ((relS S).trans (futS_set _ _ _ (hSh _ HBr.out)) (futS_set _ _ _ (hSh _ HBr.out))))) ?_
              clear hK K z0 z1 z2 z3 z4 z5
              have HIr := Lib.hid (HCr.out.sets (.slice rA (n - k) rc) (.slice A1 n1 c1) (.int .i64 s))
              have HFr := Lib.hid (show Fut wzt (((wsr.setCell ⟨br, 0, none⟩ (.slice rA (n - k) rc)).setCell ⟨br, 1, none⟩ (.slice A1 n1 c1)).setCell ⟨br, 2, none⟩ (.int .i64 s)) from sets_fut HGr.out HBr.out _ _ _)
              have HRr := Lib.hid (show RdC (((wsr.setCell ⟨br, 0, none⟩ (.slice rA (n - k) rc)).setCell ⟨br, 1, none⟩ (.slice A1 n1 c1)).setCell ⟨br, 2, none⟩ (.int .i64 s)) rA rcols from rdc_far HDr.out HLr.out.1 HLr.out.2 _ _ _)
              generalize (((wsr.setCell ⟨br, 0, none⟩ (.slice rA (n - k) rc)).setCell ⟨br, 1, none⟩ (.slice A1 n1 c1)).setCell ⟨br, 2, none⟩ (.int .i64 s)) = wzr at *
              clear HCr HGr HDr HLr hSl hSh x0 x1 x2 x3 x4 x5 x6 y0 y1 y2 y3 y4 y5 y6
              (refine wpS_h rfl rfl (fun K hK => ?_); go_simp; refine hK _ _ ?_; clear hK K)
              refine wpG_nil ?_
              go_wp2_with fail
              obtain ⟨S, hS⟩ : ∃ S : Nat → Bool, S = fun q => decide (wzr.heap.size ≤ q) := ⟨_, rfl⟩
              have hSl : ∀ q, q < wzr.heap.size → S q = false := fun q hq => by rw [hS]; exact decide_eq_false (by omega)
              have hSo : ∀ q, wzr.heap.size ≤ q → S q = true := fun q hq => by rw [hS]; exact decide_eq_true hq
              clear hS
              have i0 := (HIA.out.fut (HFt.out.trans HFr.out)).c0
              have i1 := (HIt.out.fut HFr.out).c0
              have i2 := HIr.out.c0
              have x0 := cell_futS i0 (hSl _ (World.block_lt_of_cell? _ _ i0))
              have x1 := cell_futS i1 (hSl _ (World.block_lt_of_cell? _ _ i1))
              have x2 := cell_futS i2 (hSl _ (World.block_lt_of_cell? _ _ i2))
              clear i0 i1 i2
              refine wp_region_MG (relS S) o_emendatelaw35_ColumnsLocal_9 (by kernel_rfl) (by kernel_rfl) (by intro c a d v w h; cases d <;> exact h) ?_; unfold o_emendatelaw35_ColumnsLocal_9
              refine wpG_o rfl rfl (fun K hK => ?_)
              go_simp
              go_at_call 10
              refine (awake_any _).mono ?_
              rintro e w9 ⟨rfl, hb9⟩
              have f9 : Fut wzr w9 := (Fut.refl wzr).drew.trans hb9
              refine hK _ _ (.inr ((relS S).of_fut hb9)) ?_
              clear hK K hb9
              iterate 15 (refine wpS_h rfl rfl (fun K hK => ?_); go_simp; refine hK _ _ ?_; clear hK K)
              refine wpG_o rfl rfl (fun K hK => ?_)
              go_simp
              go_at_K
              refine hK _ _ (.inr ((relS S).of_fut ((Fut.refl _).alloc _))) ?_
              clear hK K
              have hm0 : (w9.alloc (.cells #[] 51)).ownsRow w9.heap.size 51 3 (.slice (some ⟨w9.heap.size, 0, none⟩) 0 0) 0 (([] : List CC).flatMap encC) := made_cols w9
              have fo0 : Fut w9 (w9.alloc (.cells #[] 51)) := (Fut.refl w9).alloc _
              have hSo9 : ∀ q, w9.heap.size ≤ q → S q = true := fun q hq => hSo q (Nat.le_trans f9.size hq)
              refine wpG_o rfl rfl (fun K hK => ?_)
              refine wpo_append_cols (.tmp 95) (.tmp 97) rfl w9.heap.size _ 0 [] rfl hm0 tA k tc tcols rfl (by have h9 := congrArg List.length HKt.out; have := HLS.out.1; simp [ofK] at h9; omega) (by omega) (by omega) HNt.out ((HRt.out.fut (HFr.out.trans f9)).fut fo0).1 fo0.size ?_
              intro v5 w10 hn5 hg5
              refine hK _ _ (.inr (futS_own hm0 hg5 hSo9)) ?_
              clear hK K
              have fo5 : Fut w9 w10 := Below.grown fo0 hg5 fo0.size (fun q hq => (World.ownsRow.lt hm0 q hq).1)
              refine wpG_o rfl rfl (fun K hK => ?_)
              refine wpo_append_cols (.tmp 98) (.tmp 100) rfl w9.heap.size v5 _ _ rfl hn5 rA (n - k) rc rcols rfl (by have h9 := congrArg List.length HKr.out; have := HLS.out.1; simp [ofK] at h9; omega) (by omega) (by omega) HNr.out ((HRr.out.fut f9).fut fo5).1 fo5.size ?_
              intro v6 w11 hn6 hg6
              refine hK _ _ (.inr (futS_own hn5 hg6 hSo9)) ?_
              clear hK K
              have fo6 : Fut w9 w11 := Below.grown fo5 hg6 fo5.size (fun q hq => (World.ownsRow.lt hn5 q hq).1)
              rw [show 0 + k + (n - k) = n by omega, List.nil_append] at hn6
              have hv6 : ∃ RB Rd, v6 = .slice RB n Rd := by
                rcases hn6.2 with ⟨h, h0⟩ | ⟨g, cap, cur, h, _⟩
                · exact ⟨none, 0, by rw [h, h0]⟩
                · exact ⟨_, _, h⟩
              obtain ⟨RB, Rd, rfl⟩ := hv6
              have HRB := Lib.hid (show RdC w11 RB (tcols ++ rcols) from by
                refine ⟨RdS.of_own encC_len (by decide) hn6, fun e he => ?_⟩
                rcases List.mem_append.1 he with he | he
                · exact (HRt.out.fut ((HFr.out.trans f9).trans fo6)).2 e he
                · exact (HRr.out.fut (f9.trans fo6)).2 e he)
              have HF11 := Lib.hid (show Fut w5 w11 from HFt.out.trans (HFr.out.trans (f9.trans fo6)))
              have HKK := Lib.hid (show cols.map key = (tcols ++ rcols).map key from by
                rw [List.map_append, HKEY.out, HKt.out, HKr.out]
                exact ofK_split n1 k (by have := HLS.out.1; omega))
              have hncols : cols.length = n := by
                have h9 := congrArg List.length HKEY.out
                simp only [ofK, List.length_map, List.length_range] at h9
                rw [h9]; exact HLS.out.1
              have HNC := Lib.hid hncols
              clear hm0 hn5 hn6 hg5 hg6 fo0 fo5 fo6 f9 hSo9 x0 x1 x2 hSl hSo hncols
              refine wpG_o rfl rfl (fun K hK => ?_)
              go_simp
              go_at_call 18
              refine (sameCols_eq A RB n c Rd cols (tcols ++ rcols) w11 HNC.out (by unfold maxLen; omega) HKK.out (HRA.out.fut HF11.out) HRB.out).mono ?_
              rintro e w12 ⟨rfl, hb12⟩
              have HF12 := Lib.hid (show Fut w5 w12 from HF11.out.trans hb12)
              refine hK _ _ (.inr ((relS S).of_fut hb12)) ?_
              clear hK K hb12
              iterate 2 (refine wpS_h rfl rfl (fun K hK => ?_); go_simp; refine hK _ _ ?_; clear hK K)
              refine wpG_nil ?_
              go_wp2_with fail
              go_ret
              exact ⟨rfl, HW.out.trans (HA3.out.trans HF12.out)⟩
        · have HE := Lib.hid hE
          obtain ⟨m4, m5, m6⟩ := cmpF_no hE
          clear hE
          go_enter Try.func5, Try.ntmps5
          go_wp2_with (first | (go_at_call 13; refine (HFZ.out _ HX.out).mono ?_; rintro e w1 ⟨rfl, hb1⟩; obtain ⟨dd, oo, rfl⟩ := fut_of hb1; clear hb1) | (go_at_call 14; refine (HFP.out _ (R3.out.fut (Fut.fut _ _ _))).mono ?_; rintro e w1 ⟨rfl, hb1⟩; obtain ⟨d2, o2, rfl⟩ := fut_of (Fut.trans (Fut.fut _ _ _) hb1); clear hb1))
          refine (HOF.out _ (HZ.out.fut (Fut.fut _ _ _)) (HX.out.fut (Fut.fut _ _ _)) (R1.out.fut (Fut.fut _ _ _)) (R2.out.fut (Fut.fut _ _ _)) (R3.out.fut (Fut.fut _ _ _))).mono ?_
          rintro e w3 ⟨hr, hb3⟩
          obtain rfl := hr.1 HE.out
          have HA3 := Lib.hid (show Fut ((w.alloc (.cells #[.slice Z n zc, .slice X m xc] 31)).alloc (.cells #[.slice A1 n1 c1, .slice A2 n2 c2, .slice A3 n3 c3, .int .i64 s, .int .i64 u] 34)) (w3.alloc (.cells #[.slice none 0 0, .slice none 0 0, .int .i64 0] 25)) from ((Fut.fut _ _ _).trans hb3).alloc _)
          have HIA := Lib.hid (show CelI (w3.alloc (.cells #[.slice none 0 0, .slice none 0 0, .int .i64 0] 25)) w3.heap.size (.slice none 0 0) (.slice none 0 0) (.int .i64 0) from heap_new' _ _ _ rfl)
          clear hr hb3
          go_wp2_with fail
          generalize w3.alloc (.cells #[.slice none 0 0, .slice none 0 0, .int .i64 0] 25) = w7 at *
          refine (awake_any w7).mono ?_
          rintro e w8 ⟨rfl, hb8⟩
          have i0 := (HIA.out.fut hb8).c0
          have HB8 := Lib.hid (show Fut w w8 from (HW.out.trans HA3.out).trans hb8)
          clear hb8
          go_wp2_with fail
          go_ret
          exact ⟨rfl, HB8.out⟩
      · obtain ⟨m1, m2, m3⟩ := cmpF_no hmn
        clear hmn
        go_enter Try.func5, Try.ntmps5
        go_wp2_with (first | (go_at_call 13; refine (HFZ.out _ HX.out).mono ?_; rintro e w1 ⟨rfl, hb1⟩; obtain ⟨dd, oo, rfl⟩ := fut_of hb1; clear hb1) | (go_at_call 14; refine (HFP.out _ (R3.out.fut (Fut.fut _ _ _))).mono ?_; rintro e w1 ⟨rfl, hb1⟩; obtain ⟨d2, o2, rfl⟩ := fut_of (Fut.trans (Fut.fut _ _ _) hb1); clear hb1) | (go_at_call 10; refine (awake_any _).mono ?_; rintro e w1 ⟨rfl, hb1⟩; have HB := Lib.hid hb1; clear hb1))
        go_ret
        exact ⟨rfl, HW.out.trans ((Fut.fut _ _ _).trans HB.out)⟩
    · rw [bnot hp] at HFP
      go_enter Try.func5, Try.ntmps5
      go_wp2_with (first | (go_at_call 13; refine (HFZ.out _ HX.out).mono ?_; rintro e w1 ⟨rfl, hb1⟩; obtain ⟨dd, oo, rfl⟩ := fut_of hb1; clear hb1) | (go_at_call 14; refine (HFP.out _ (R3.out.fut (Fut.fut _ _ _))).mono ?_; rintro e w1 ⟨rfl, hb1⟩; obtain ⟨d2, o2, rfl⟩ := fut_of (Fut.trans (Fut.fut _ _ _) hb1); clear hb1) | (go_at_call 10; refine (awake_any _).mono ?_; rintro e w1 ⟨rfl, hb1⟩; have HB := Lib.hid hb1; clear hb1))
      go_ret
      exact ⟨rfl, HW.out.trans ((Fut.fut _ _ _).trans HB.out)⟩
  · rw [bnot hz] at HFZ
    go_enter Try.func5, Try.ntmps5
    go_wp2_with (first | (go_at_call 13; refine (HFZ.out _ HX.out).mono ?_; rintro e w1 ⟨rfl, hb1⟩; obtain ⟨dd, oo, rfl⟩ := fut_of hb1; clear hb1) | (go_at_call 10; refine (awake_any _).mono ?_; rintro e w1 ⟨rfl, hb1⟩; have HB := Lib.hid hb1; clear hb1))
    go_ret
    exact ⟨rfl, HW.out.trans ((Fut.fut _ _ _).trans HB.out)⟩
end Go.Proofs.Ytagmpbgidooibaa
