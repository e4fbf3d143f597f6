/-
  The law of lists, walked: it returns true and turns nothing that was there.
-/
import Derived.Test.YtbkancahbcoedaaSlists
namespace Go.Proofs.Ytbkancahbcoedaa
open Go.RowKit
attribute [local go_sem] Oper.lit Oper.litS fut_fut fut_drew World.cell?_alloc_some
theorem fut_base_drew (b : World) (d : Nat) (os : Array Obj) : fut b.drew d os = fut b d os := rfl
attribute [local go_sem] fut_base_drew
theorem take_snoc {α β : Type} (f : β → α → β) (s : β) {l : List α} {k : Nat} {x : α} (hx : l[k]? = some x) : (l.take (k + 1)).foldl f s = f ((l.take k).foldl f s) x := by
  rw [List.take_add_one, hx, List.foldl_append]; rfl
set_option maxHeartbeats 12800000 in
set_option maxRecDepth 20000 in
theorem law_lists (A B : Option Addr) (n c m d : Nat) (l : List Int) (v : List (Int × Int)) (w : World) (hl : l.length = n) (hv : v.length = m) (hn : n ≤ maxLen) (hm : m ≤ maxLen) (hR : Rd1 w A (.int .i64 ·) l) (hS : RdS w B 2 pe v) :
    Calls Try.prog 4 #[.slice A n c, .slice B m d] w fun e w' => e = .returned (.bool true) ∧ Below w.heap.size w w' := by
  have hn' : n ≤ 9223372036854775807 := hn
  have hm' : m ≤ 9223372036854775807 := hm
  have HR := Lib.hid hR
  have HS := Lib.hid hS
  have HL := Lib.hid hl
  have HM := Lib.hid hv
  clear hR hS hl hv hn hm
  by_cases h1 : n ≤ 50
  rotate_left
  · have h1' : 50 < n := by omega
    go_enter Try.func4, Try.ntmps4
    go_wp2_with (go_at_call 12; refine (awake_any _).mono ?_; rintro e w1 ⟨rfl, hb1⟩; have hf1 : Fut _ w1 := hb1; clear hb1)
    go_ret
    exact ⟨rfl, (by show Fut _ _; repeat (first | (with_reducible assumption) | exact Fut.refl _ | exact Fut.fut _ _ _ | refine Fut.drew ?_ | refine Fut.alloc ?_ _ | refine Fut.trans ?_ (Fut.fut _ _ _) | refine Fut.trans ?_ (by assumption)))⟩
  by_cases h2 : m ≤ 50
  rotate_left
  · have h2' : 50 < m := by omega
    go_enter Try.func4, Try.ntmps4
    go_wp2_with (go_at_call 12; refine (awake_any _).mono ?_; rintro e w1 ⟨rfl, hb1⟩; have hf1 : Fut _ w1 := hb1; clear hb1)
    go_ret
    exact ⟨rfl, (by show Fut _ _; repeat (first | (with_reducible assumption) | exact Fut.refl _ | exact Fut.fut _ _ _ | refine Fut.drew ?_ | refine Fut.alloc ?_ _ | refine Fut.trans ?_ (Fut.fut _ _ _) | refine Fut.trans ?_ (by assumption)))⟩
  by_cases h3 : l.all intB = true
  rotate_left
  · have h3' : l.all intB = false := by simpa using h3
    have H3 := Lib.hid h3'
    clear h3 h3'
    go_enter Try.func4, Try.ntmps4
    go_wp2_with (first | (go_at_call 12; refine (awake_any _).mono ?_; rintro e w1 ⟨rfl, hb1⟩; have hf1 : Fut _ w1 := hb1; clear hb1) | (go_at_call 19; refine (rInts_any A n c l _ HL.out (by omega) HR.out).mono ?_; rintro e w1 ⟨rfl, hb1⟩; rw [H3.out]; have hf1 : Fut _ w1 := hb1; clear hb1))
    go_ret
    exact ⟨rfl, (by show Fut _ _; repeat (first | (with_reducible assumption) | exact Fut.refl _ | exact Fut.fut _ _ _ | refine Fut.drew ?_ | refine Fut.alloc ?_ _ | refine Fut.trans ?_ (Fut.fut _ _ _) | refine Fut.trans ?_ (by assumption)))⟩
  by_cases h4 : (v.all fun p => valB p.1 p.2) = true
  rotate_left
  · have h4' : (v.all fun p => valB p.1 p.2) = false := by simpa using h4
    have H3 := Lib.hid h3
    have H4 := Lib.hid h4'
    clear h3 h4 h4'
    go_enter Try.func4, Try.ntmps4
    go_wp2_with (first | (go_at_call 12; refine (awake_any _).mono ?_; rintro e w1 ⟨rfl, hb1⟩; have hf1 : Fut _ w1 := hb1; clear hb1) | (go_at_call 19; refine (rInts_any A n c l _ HL.out (by omega) HR.out).mono ?_; rintro e w1 ⟨rfl, hb1⟩; rw [H3.out]; have hf1 : Fut w w1 := hb1; clear hb1) | (go_at_call 20; refine (rValues_any B m d v _ HM.out (by omega) (HS.out.fut (by assumption))).mono ?_; rintro e w2 ⟨rfl, hb2⟩; rw [H4.out]; have hf2 : Fut _ w2 := hb2; clear hb2))
    go_ret
    exact ⟨rfl, (by show Fut _ _; repeat (first | (with_reducible assumption) | exact Fut.refl _ | exact Fut.fut _ _ _ | refine Fut.drew ?_ | refine Fut.alloc ?_ _ | refine Fut.trans ?_ (Fut.fut _ _ _) | refine Fut.trans ?_ (by assumption)))⟩
  have H3 := Lib.hid h3
  have H4 := Lib.hid h4
  have HI := Lib.hid (show ∀ x ∈ l, 0 ≤ x ∧ x ≤ 1099511627776 from fun x hx => intB_iff.1 (List.all_eq_true.1 h3 x hx))
  have HJ := Lib.hid (show ∀ p ∈ v, vI p from fun p hp => List.all_eq_true.1 h4 p hp)
  clear h3 h4
  go_enter Try.func4, Try.ntmps4
  go_wp2_with (first | (go_at_call 19; refine (rInts_any A n c l _ HL.out (by omega) HR.out).mono ?_; rintro e w1 ⟨rfl, hb1⟩; rw [H3.out]; have hf1 : Fut w w1 := hb1; clear hb1) | (go_at_call 20; refine (rValues_any B m d v _ HM.out (by omega) (HS.out.fut (by assumption))).mono ?_; rintro e w2 ⟨rfl, hb2⟩; rw [H4.out]; have hf2 : Fut _ w2 := hb2; clear hb2))
  have HF0 := Lib.hid (show Fut w w2 from (by show Fut _ _; repeat (first | (with_reducible assumption) | exact Fut.refl _ | exact Fut.fut _ _ _ | refine Fut.drew ?_ | refine Fut.alloc ?_ _ | refine Fut.trans ?_ (Fut.fut _ _ _) | refine Fut.trans ?_ (by assumption))))
  clear hf1 hf2
  go_loopw [5, 6, 7, 8, 9] (fun s1 s2 s3 s4 i wr => ∃ (k : Nat) (a b e f : Int), k ≤ n ∧ i = .int .i64 k ∧ s1 = .int .i64 a ∧ s2 = .int .i64 b ∧ s3 = .int .i64 e ∧ s4 = .int .i64 f ∧ Hid (a = (l.take k).foldl minF 1099511627776) ∧ Hid (b = (l.take k).foldl plusF 0) ∧ Hid (e = (l.take k).foldl plusF 0) ∧ Hid (f = (l.take k).foldl mulF 1) ∧ (0 ≤ b ∧ b ≤ 1099511627776) ∧ (0 ≤ e ∧ e ≤ 1099511627776) ∧ (0 ≤ f ∧ f ≤ 1099511627776) ∧ Hid (Fut w wr)) (fun _ _ _ _ i _ => n - (intOf i).toNat)
  case atStart => exact ⟨0, _, _, _, _, Nat.zero_le _, rfl, rfl, rfl, rfl, rfl, Lib.hid rfl, Lib.hid rfl, Lib.hid rfl, Lib.hid rfl, by decide, by decide, by decide, HF0⟩
  case round =>
    clear HF0
    obtain ⟨k, a, b, e1, f1, hk, rfl, rfl, rfl, rfl, rfl, ha, hb, he, hf, bb, be, bf, hF⟩ := hrel
    by_cases hkn : k < n
    · obtain ⟨x, hx⟩ : ∃ x, l[k]? = some x := ⟨_, List.getElem?_eq_getElem (by rw [HL.out]; exact hkn)⟩
      obtain ⟨b3, o3, rfl, hc⟩ := HR.out k x hx
      have r0 : ∀ dd os, (fut wr dd os).cell? ⟨b3, o3 + k, none⟩ = some (.int .i64 x) := cell_fut (hF.out.cell hc)
      have bx := HI.out x (List.mem_of_getElem? hx)
      have HX := Lib.hid hx
      clear hx hc
      obtain ⟨wk, rfl⟩ : ∃ q, q = wr := ⟨_, rfl⟩
      have hmn : ((x < a) = True ∧ Hid (minF a x = x)) ∨ ((x < a) = False ∧ Hid (minF a x = a)) := by
        by_cases h : x < a
        · exact .inl ⟨eq_true h, Lib.hid (by unfold minF; rw [if_neg (by omega)])⟩
        · refine .inr ⟨eq_false h, Lib.hid ?_⟩
          unfold minF; split <;> omega
      rcases hmn with ⟨hmn, HMN⟩ | ⟨hmn, HMN⟩
      all_goals
        go_wp2_with fail
        refine wp_region_M o_emendatelaw26_SemiringLists_7 (by kernel_rfl) (by kernel_rfl) (by intro c a d v w h; cases d <;> exact h) ?_; unfold o_emendatelaw26_SemiringLists_7
        iterate 11 (refine wpF_h rfl rfl (fun K hK => ?_); go_simp; refine hK _ _ ?_; clear hK K)
        refine wpF_o rfl rfl (fun K hK => ?_)
        go_simp
        refine (rTropMul_any b x bb.1 bb.2 bx.1 bx.2 _).mono ?_
        rintro e w4 ⟨rfl, hb4⟩
        have f4 : Fut wk w4 := (Fut.refl wk).drew.trans hb4
        refine hK _ _ (.inr hb4) ?_
        clear hK K hb4
        iterate 2 (refine wpF_h rfl rfl (fun K hK => ?_); go_simp; refine hK _ _ ?_; clear hK K)
        refine wpF_nil ?_
        obtain ⟨dd, oo, rfl⟩ := fut_of f4
        go_wp2_with fail
        refine wp_region_M o_emendatelaw26_SemiringLists_8 (by kernel_rfl) (by kernel_rfl) (by intro c a d v w h; cases d <;> exact h) ?_; unfold o_emendatelaw26_SemiringLists_8
        iterate 10 (refine wpF_h rfl rfl (fun K hK => ?_); go_simp; refine hK _ _ ?_; clear hK K)
        refine wpF_o rfl rfl (fun K hK => ?_)
        go_simp
        refine (rCntAdd_any e1 x be.1 be.2 bx.1 bx.2 _).mono ?_
        rintro e w5 ⟨rfl, hb5⟩
        have f5 : Fut wk w5 := (Fut.fut _ _ _).trans hb5
        refine hK _ _ (.inr hb5) ?_
        clear hK K hb5
        refine wpF_o rfl rfl (fun K hK => ?_)
        go_simp
        refine (rCntMul_any f1 x bf.1 bf.2 bx.1 bx.2 _).mono ?_
        rintro e w6 ⟨rfl, hb6⟩
        have f6 : Fut wk w6 := f5.trans hb6
        refine hK _ _ (.inr hb6) ?_
        clear hK K hb6
        iterate 2 (refine wpF_h rfl rfl (fun K hK => ?_); go_simp; refine hK _ _ ?_; clear hK K)
        refine wpF_nil ?_
        go_wp2_with fail
        exact ⟨⟨k + 1, _, plusF b x, plusF e1 x, mulF f1 x, by omega, by go_num, rfl, rfl, rfl, rfl, Lib.hid (by rw [take_snoc _ _ HX.out, ← ha.out]; exact HMN.out.symm), Lib.hid (by rw [take_snoc _ _ HX.out, ← hb.out]), Lib.hid (by rw [take_snoc _ _ HX.out, ← he.out]), Lib.hid (by rw [take_snoc _ _ HX.out, ← hf.out]), plusF_bd bb.1 bx.1, plusF_bd be.1 bx.1, mulF_bd bf.1 bx.1, Lib.hid (hF.out.trans f6)⟩, by simp [intOf]; omega⟩
    · have hkn' : k = n := by omega
      have ha2 : a = l.foldl minF 1099511627776 := by rw [ha.out, List.take_of_length_le (by rw [HL.out]; omega)]
      have hb2 : b = l.foldl plusF 0 := by rw [hb.out, List.take_of_length_le (by rw [HL.out]; omega)]
      have he2 : e1 = l.foldl plusF 0 := by rw [he.out, List.take_of_length_le (by rw [HL.out]; omega)]
      have hf2 : f1 = l.foldl mulF 1 := by rw [hf.out, List.take_of_length_le (by rw [HL.out]; omega)]
      have HA := Lib.hid ha2
      have HB := Lib.hid hb2
      have HE := Lib.hid he2
      have HFF := Lib.hid hf2
      clear ha2 hb2 he2 hf2 ha hb he hf hkn' bb be bf
      obtain ⟨wk, rfl⟩ : ∃ q, q = wr := ⟨_, rfl⟩
      go_wp2_with fail
      have hb10 : ((wk.alloc (.cells #[.int .i64 1099511627776, .int .i64 0] 23)).alloc (.cells #[.int .i64 0, .int .i64 0] 23)).heap[wk.heap.size]? = some (.cells #[.int .i64 1099511627776, .int .i64 0] 23 (0, 0)) := (Below.heap_alloc _ _ _ (by simp only [World.size_alloc]; omega)).trans (heap_alloc_new _ _)
      have hb11 : ((wk.alloc (.cells #[.int .i64 1099511627776, .int .i64 0] 23)).alloc (.cells #[.int .i64 0, .int .i64 0] 23)).heap[wk.heap.size + 1]? = some (.cells #[.int .i64 0, .int .i64 0] 23 (0, 0)) := by rw [← World.size_alloc wk (.cells #[.int .i64 1099511627776, .int .i64 0] 23)]; exact heap_alloc_new _ _
      have H10 := Lib.hid hb10
      have H11 := Lib.hid hb11
      have HF1 := Lib.hid ((hF.out.alloc (.cells #[.int .i64 1099511627776, .int .i64 0] 23)).alloc (.cells #[.int .i64 0, .int .i64 0] 23))
      have hws : w.heap.size ≤ wk.heap.size := hF.out.size
      clear hb10 hb11
      go_loopw [12] (fun i wr => ∃ (k : Nat) (p q : Int × Int), k ≤ m ∧ i = .int .i64 k ∧ Hid (p = (v.take k).foldl vaP (1099511627776, 0)) ∧ Hid (q = (v.take k).foldl vmP (0, 0)) ∧ Hid (vI p) ∧ Hid (vI q) ∧ Hid (wr.heap[wk.heap.size]? = some (.cells #[.int .i64 p.1, .int .i64 p.2] 23 (0, 0))) ∧ Hid (wr.heap[wk.heap.size + 1]? = some (.cells #[.int .i64 q.1, .int .i64 q.2] 23 (0, 0))) ∧ Hid (Fut w wr)) (fun i _ => m - (intOf i).toNat)
      case atStart => exact ⟨0, (1099511627776, 0), (0, 0), Nat.zero_le _, rfl, Lib.hid rfl, Lib.hid rfl, Lib.hid (by decide), Lib.hid (by decide), H10, H11, HF1⟩
      case round =>
        clear H10 H11 HF1
        obtain ⟨k, ⟨p1, p2⟩, ⟨q1, q2⟩, hk2, rfl, hp, hq, hIp, hIq, h10, h11, hF2⟩ := hrel
        simp only at h10 h11
        have g0 : wr.cell? ⟨wk.heap.size, 0, none⟩ = some (.int .i64 p1) := cell_of_row _ _ 0 _ _ _ h10.out
        have g1 : wr.cell? ⟨wk.heap.size, 1, none⟩ = some (.int .i64 p2) := cell_of_row _ _ 1 _ _ _ h10.out
        have g2 : wr.cell? ⟨wk.heap.size + 1, 0, none⟩ = some (.int .i64 q1) := cell_of_row _ _ 0 _ _ _ h11.out
        have g3 : wr.cell? ⟨wk.heap.size + 1, 1, none⟩ = some (.int .i64 q2) := cell_of_row _ _ 1 _ _ _ h11.out
        by_cases hkm : k < m
        · obtain ⟨⟨x1, x2⟩, hx⟩ : ∃ x, v[k]? = some x := ⟨_, List.getElem?_eq_getElem (by rw [HM.out]; exact hkm)⟩
          obtain ⟨b3, o3, rfl, hc⟩ := HS.out k (x1, x2) hx
          have c0 := hF2.out.cell (hc 0 _ (by decide) rfl)
          have c1 := hF2.out.cell (hc 1 _ (by decide) rfl)
          simp only [Nat.add_zero] at c0
          have r0 := cell_fut c0
          have r1 := cell_fut c1
          have r2 := cell_fut g0
          have r3 := cell_fut g1
          have r4 := cell_fut g2
          have r5 := cell_fut g3
          have hIx := HJ.out (x1, x2) (List.mem_of_getElem? hx)
          have HX := Lib.hid hx
          have HIX := Lib.hid hIx
          have by1 := valB_bd hIx
          have by2 := valB_bd hIq.out
          have HVA := Lib.hid (vaP_I _ _ hIp.out hIx)
          have HVM := Lib.hid (vmP_I _ _ hIq.out hIx)
          clear hx hc c0 c1 hIx g0 g1 g2 g3
          simp only at by1 by2
          obtain ⟨wi, rfl⟩ : ∃ z, z = wr := ⟨_, rfl⟩
          go_wp2_with fail
          refine wp_region_M o_emendatelaw26_SemiringLists_13 (by kernel_rfl) (by kernel_rfl) (by intro c a d v w h; cases d <;> exact h) ?_; unfold o_emendatelaw26_SemiringLists_13
          iterate 10 (refine wpF_h rfl rfl (fun K hK => ?_); go_simp; refine hK _ _ ?_; clear hK K)
          refine wpF_o rfl rfl (fun K hK => ?_)
          go_simp
          refine (rValueAdd_any p1 p2 x1 x2 _).mono ?_
          rintro e w5 ⟨rfl, hb5⟩
          have f5 : Fut wi w5 := (Fut.refl wi).drew.trans hb5
          refine hK _ _ (.inr hb5) ?_
          clear hK K hb5
          refine wpF_o rfl rfl (fun K hK => ?_)
          go_simp
          refine (rValueMul_any q1 q2 x1 x2 by2.1 by2.2.1 by2.2.2.1 by2.2.2.2 by1.1 by1.2.1 by1.2.2.1 by1.2.2.2 _).mono ?_
          rintro e w6 ⟨rfl, hb6⟩
          have f6 : Fut wi w6 := f5.trans hb6
          refine hK _ _ (.inr hb6) ?_
          clear hK K hb6
          have h10' := (f6.block _ (Array.getElem?_eq_some_iff.1 h10.out).1).trans h10.out
          have h11' := (f6.block _ (Array.getElem?_eq_some_iff.1 h11.out).1).trans h11.out
          have g0 : w6.cell? ⟨wk.heap.size, 0, none⟩ = some (.int .i64 p1) := cell_of_row _ _ 0 _ _ _ h10'
          have g1 : w6.cell? ⟨wk.heap.size, 1, none⟩ = some (.int .i64 p2) := cell_of_row _ _ 1 _ _ _ h10'
          have k0 := frozen_of_row _ _ 0 _ _ h10'
          have k1 := frozen_of_row _ _ 1 _ _ h10'
          have H10 := Lib.hid h10'
          have H11 := Lib.hid h11'
          clear h10' h11' r0 r1 r2 r3 r4 r5
          refine wpF_ol rfl (by kernel_rfl) rfl (fun K hK => ?_)
          go_simp
          refine hK _ _ ?_
          clear hK K
          have h10b : ((w6.setCell ⟨wk.heap.size, 0, none⟩ (.int .i64 (vaC p1 p2 x1 x2))).setCell ⟨wk.heap.size, 1, none⟩ (.int .i64 (vaS p1 p2 x1 x2))).heap[wk.heap.size]? = some (.cells #[.int .i64 (vaC p1 p2 x1 x2), .int .i64 (vaS p1 p2 x1 x2)] 23 (0, 0)) := Joins.block_setCell (Joins.block_setCell H10.out _) _
          have h11b : ((w6.setCell ⟨wk.heap.size, 0, none⟩ (.int .i64 (vaC p1 p2 x1 x2))).setCell ⟨wk.heap.size, 1, none⟩ (.int .i64 (vaS p1 p2 x1 x2))).heap[wk.heap.size + 1]? = some (.cells #[.int .i64 q1, .int .i64 q2] 23 (0, 0)) := (Below.heap_setCell _ _ _ _ (by simp)).trans ((Below.heap_setCell _ _ _ _ (by simp)).trans H11.out)
          have HF7 := Lib.hid (show Fut w ((w6.setCell ⟨wk.heap.size, 0, none⟩ (.int .i64 (vaC p1 p2 x1 x2))).setCell ⟨wk.heap.size, 1, none⟩ (.int .i64 (vaS p1 p2 x1 x2))) from ((hF2.out.trans f6).setCell (by simp only; omega) _).setCell (by simp only; omega) _)
          clear g0 g1 k0 k1
          generalize (w6.setCell ⟨wk.heap.size, 0, none⟩ (.int .i64 (vaC p1 p2 x1 x2))).setCell ⟨wk.heap.size, 1, none⟩ (.int .i64 (vaS p1 p2 x1 x2)) = w7 at *
          have g2 : w7.cell? ⟨wk.heap.size + 1, 0, none⟩ = some (.int .i64 q1) := cell_of_row _ _ 0 _ _ _ h11b
          have g3 : w7.cell? ⟨wk.heap.size + 1, 1, none⟩ = some (.int .i64 q2) := cell_of_row _ _ 1 _ _ _ h11b
          have k2 := frozen_of_row _ _ 0 _ _ h11b
          have k3 := frozen_of_row _ _ 1 _ _ h11b
          have HB10 := Lib.hid h10b
          have HB11 := Lib.hid h11b
          clear h10b h11b
          refine wpF_o rfl rfl (fun K hK => ?_)
          go_simp
          refine hK _ _ (.inl (by kernel_rfl)) ?_
          clear hK K
          refine wpF_nil ?_
          go_wp2_with fail
          exact ⟨⟨k + 1, vaP (p1, p2) (x1, x2), vmP (q1, q2) (x1, x2), by omega, by go_num, Lib.hid (by rw [take_snoc _ _ HX.out, ← hp.out]), Lib.hid (by rw [take_snoc _ _ HX.out, ← hq.out]), HVA, HVM, Lib.hid ((Below.heap_setCell _ _ _ _ (by simp)).trans ((Below.heap_setCell _ _ _ _ (by simp)).trans HB10.out)), Lib.hid (Joins.block_setCell (Joins.block_setCell HB11.out _) _), Lib.hid ((HF7.out.setCell (by simp only; omega) _).setCell (by simp only; omega) _)⟩, by simp [intOf]; omega⟩
        · have hkm' : k = m := by omega
          have hp2 : v.foldl vaP (1099511627776, 0) = (p1, p2) := by rw [hp.out, List.take_of_length_le (by rw [HM.out]; omega)]
          have hq2 : v.foldl vmP (0, 0) = (q1, q2) := by rw [hq.out, List.take_of_length_le (by rw [HM.out]; omega)]
          have HP := Lib.hid hp2
          have HQ := Lib.hid hq2
          have hwx : Fut wr (((wr.alloc (.cells #[] 36)).alloc (.cells #[] 37)).alloc (.cells #[] 27)) := (((Fut.refl wr).alloc _).alloc _).alloc _
          have r2 : ∀ dd os, (fut (((wr.alloc (.cells #[] 36)).alloc (.cells #[] 37)).alloc (.cells #[] 27)) dd os).cell? ⟨wk.heap.size, 0, none⟩ = some (.int .i64 p1) := cell_fut (hwx.cell g0)
          have r3 : ∀ dd os, (fut (((wr.alloc (.cells #[] 36)).alloc (.cells #[] 37)).alloc (.cells #[] 27)) dd os).cell? ⟨wk.heap.size, 1, none⟩ = some (.int .i64 p2) := cell_fut (hwx.cell g1)
          have r4 : ∀ dd os, (fut (((wr.alloc (.cells #[] 36)).alloc (.cells #[] 37)).alloc (.cells #[] 27)) dd os).cell? ⟨wk.heap.size + 1, 0, none⟩ = some (.int .i64 q1) := cell_fut (hwx.cell g2)
          have r5 : ∀ dd os, (fut (((wr.alloc (.cells #[] 36)).alloc (.cells #[] 37)).alloc (.cells #[] 27)) dd os).cell? ⟨wk.heap.size + 1, 1, none⟩ = some (.int .i64 q2) := cell_fut (hwx.cell g3)
          have e1' : (a == a) = true := beq_self_eq_true _
          have e2' : (b == b) = true := beq_self_eq_true _
          have e3' : (e1 == e1) = true := beq_self_eq_true _
          have e4' : (f1 == f1) = true := beq_self_eq_true _
          have HFX := Lib.hid (hF2.out.trans hwx)
          clear hwx g0 g1 g2 g3
          clear hp2 hq2 hkm'
          go_wp2_with fail
          clear hF2
          refine wp_region_M o_emendatelaw26_SemiringLists_15 (by kernel_rfl) (by kernel_rfl) (by intro c a d v w h; cases d <;> exact h) ?_; unfold o_emendatelaw26_SemiringLists_15
          refine wpF_o rfl rfl (fun K hK => ?_)
          go_simp
          go_at_call 12
          (with_reducible refine (awake_any _).mono ?_)
          rintro e u1 ⟨rfl, hb⟩
          have f1 : Fut _ u1 := hb
          refine hK _ _ (.inr hb) ?_
          clear hK K hb
          skip
          iterate 5 (refine wpF_h rfl rfl (fun K hK => ?_); go_simp; refine hK _ _ ?_; clear hK K)
          refine wpF_o rfl rfl (fun K hK => ?_)
          go_simp
          go_at_call 24
          (with_reducible refine (sumTrop A n c l _ HL.out (by omega) (fun _ _ => trivial) (HR.out.fut (show Fut w _ from HFX.out.trans (by show Fut _ _; repeat (first | (with_reducible assumption) | exact Fut.refl _ | exact Fut.fut _ _ _ | refine Fut.drew ?_ | refine Fut.alloc ?_ _ | refine Fut.trans ?_ (Fut.fut _ _ _) | refine Fut.trans ?_ (by assumption)))))).mono ?_)
          rintro e u2 ⟨rfl, hb⟩
          have f2 : Fut _ u2 := hb
          refine hK _ _ (.inr hb) ?_
          clear hK K hb
          rw [← HA.out]
          iterate 7 (refine wpF_h rfl rfl (fun K hK => ?_); go_simp; refine hK _ _ ?_; clear hK K)
          refine wpF_o rfl rfl (fun K hK => ?_)
          go_simp
          go_at_call 25
          (with_reducible refine (prodTrop A n c l _ HL.out (by omega) HI.out (HR.out.fut (show Fut w _ from HFX.out.trans (by show Fut _ _; repeat (first | (with_reducible assumption) | exact Fut.refl _ | exact Fut.fut _ _ _ | refine Fut.drew ?_ | refine Fut.alloc ?_ _ | refine Fut.trans ?_ (Fut.fut _ _ _) | refine Fut.trans ?_ (by assumption)))))).mono ?_)
          rintro e u3 ⟨rfl, hb⟩
          have f3 : Fut _ u3 := hb
          refine hK _ _ (.inr hb) ?_
          clear hK K hb
          rw [← HB.out]
          iterate 7 (refine wpF_h rfl rfl (fun K hK => ?_); go_simp; refine hK _ _ ?_; clear hK K)
          refine wpF_o rfl rfl (fun K hK => ?_)
          go_simp
          go_at_call 24
          (with_reducible refine (sumCnt A n c l _ HL.out (by omega) HI.out (HR.out.fut (show Fut w _ from HFX.out.trans (by show Fut _ _; repeat (first | (with_reducible assumption) | exact Fut.refl _ | exact Fut.fut _ _ _ | refine Fut.drew ?_ | refine Fut.alloc ?_ _ | refine Fut.trans ?_ (Fut.fut _ _ _) | refine Fut.trans ?_ (by assumption)))))).mono ?_)
          rintro e u4 ⟨rfl, hb⟩
          have f4 : Fut _ u4 := hb
          refine hK _ _ (.inr hb) ?_
          clear hK K hb
          rw [← HE.out]
          iterate 7 (refine wpF_h rfl rfl (fun K hK => ?_); go_simp; refine hK _ _ ?_; clear hK K)
          refine wpF_o rfl rfl (fun K hK => ?_)
          go_simp
          go_at_call 25
          (with_reducible refine (prodCnt A n c l _ HL.out (by omega) HI.out (HR.out.fut (show Fut w _ from HFX.out.trans (by show Fut _ _; repeat (first | (with_reducible assumption) | exact Fut.refl _ | exact Fut.fut _ _ _ | refine Fut.drew ?_ | refine Fut.alloc ?_ _ | refine Fut.trans ?_ (Fut.fut _ _ _) | refine Fut.trans ?_ (by assumption)))))).mono ?_)
          rintro e u5 ⟨rfl, hb⟩
          have f5 : Fut _ u5 := hb
          refine hK _ _ (.inr hb) ?_
          clear hK K hb
          rw [← HFF.out]
          iterate 7 (refine wpF_h rfl rfl (fun K hK => ?_); go_simp; refine hK _ _ ?_; clear hK K)
          refine wpF_o rfl rfl (fun K hK => ?_)
          go_simp
          go_at_call 26
          (with_reducible refine (sumVal B m d v _ HM.out (by omega) HJ.out (HS.out.fut (show Fut w _ from HFX.out.trans (by show Fut _ _; repeat (first | (with_reducible assumption) | exact Fut.refl _ | exact Fut.fut _ _ _ | refine Fut.drew ?_ | refine Fut.alloc ?_ _ | refine Fut.trans ?_ (Fut.fut _ _ _) | refine Fut.trans ?_ (by assumption)))))).mono ?_)
          rintro e u6 ⟨rfl, hb⟩
          have f6 : Fut _ u6 := hb
          refine hK _ _ (.inr hb) ?_
          clear hK K hb
          rw [HP.out]
          iterate 7 (refine wpF_h rfl rfl (fun K hK => ?_); go_simp; refine hK _ _ ?_; clear hK K)
          refine wpF_o rfl rfl (fun K hK => ?_)
          go_simp
          go_at_call 27
          (with_reducible refine (prodVal B m d v _ HM.out (by omega) HJ.out (HS.out.fut (show Fut w _ from HFX.out.trans (by show Fut _ _; repeat (first | (with_reducible assumption) | exact Fut.refl _ | exact Fut.fut _ _ _ | refine Fut.drew ?_ | refine Fut.alloc ?_ _ | refine Fut.trans ?_ (Fut.fut _ _ _) | refine Fut.trans ?_ (by assumption)))))).mono ?_)
          rintro e u7 ⟨rfl, hb⟩
          have f7 : Fut _ u7 := hb
          refine hK _ _ (.inr hb) ?_
          clear hK K hb
          rw [HQ.out]
          iterate 3 (refine wpF_h rfl rfl (fun K hK => ?_); go_simp; refine hK _ _ ?_; clear hK K)
          refine wpF_nil ?_
          go_wp2_with fail
          go_ret
          exact ⟨rfl, HFX.out.trans (by show Fut _ _; repeat (first | (with_reducible assumption) | exact Fut.refl _ | exact Fut.fut _ _ _ | refine Fut.drew ?_ | refine Fut.alloc ?_ _ | refine Fut.trans ?_ (Fut.fut _ _ _) | refine Fut.trans ?_ (by assumption)))⟩
end Go.Proofs.Ytbkancahbcoedaa
