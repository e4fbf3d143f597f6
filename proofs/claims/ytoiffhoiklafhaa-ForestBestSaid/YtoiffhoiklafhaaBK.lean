/-
  Texts joined: What is bounded; Whether a derivation is a least one, walked; The number of least derivations, as plain mathematics; The number of least derivations, walked.
-/
import Derived.Test.YtoiffhoiklafhaaBI
import Derived.Test.YtoiffhoiklafhaaBF
import Derived.Test.YtoiffhoiklafhaaBG
import Derived.Test.YtoiffhoiklafhaaBH
/-
  What is bounded.
-/
namespace Go.Proofs.Ytoiffhoiklafhaa
open Go.RowKit Go.Deep PK
attribute [local go_sem] Oper.lit Oper.litS fut_fut fut_drew World.cell?_alloc_some
theorem sol_out {N : Nat} {es : List EI} {V : Nat → VV} (hvd : validB N es = true) (hV : Sol (EEs es) V) {i : Nat} (hi : N ≤ i) : V i = top := by
  rcases hV.attained (EEs_ok hvd) i with h | ⟨e, he, h1, _⟩
  · exact h
  · obtain ⟨x, hx, rfl⟩ := List.mem_map.1 he
    have := okE_parts ((validB_parts hvd).2.2 x hx)
    simp only [toEE] at h1
    omega
set_option maxHeartbeats 3200000 in
set_option maxRecDepth 4000 in
theorem bounded_any (N : Int) (A : Option Addr) (n c : Nat) (es : List EI) (w : World) (hl : es.length = n) (hn : n ≤ maxLen) (hR : RdE w A es) :
    Calls Try.prog 12 #[hv N A n c] w fun x w' => (∃ b, x = .returned (.bool b) ∧ (b = true → ∃ (M : Nat) (V : Nat → VV), N = M ∧ smallB N es = true ∧ Sol (EEs es) V ∧ ∀ i, (V i).s < INF)) ∧ Below w.heap.size w w' := by
  have HC1 := Lib.hid (fun w' (hf : Fut w w') => small_any N A n c es w' hl hn (hR.fut hf))
  have HL := Lib.hid hl
  have HR := Lib.hid hR
  clear hl hn hR
  have HB := Lib.hid (show Blk (w.alloc (.cells #[.int .i64 N, .slice A n c] 24)) w.heap.size 24 #[.int .i64 N, .slice A n c] from heap_new' _ _ _ rfl)
  have HF := Lib.hid (show Fut w (w.alloc (.cells #[.int .i64 N, .slice A n c] 24)) from (Fut.refl w).alloc _)
  go_enter Try.func12, Try.ntmps12
  go_wp2_with fail
  generalize w.alloc (.cells #[.int .i64 N, .slice A n c] 24) = wb at *
  refine (HC1.out _ HF.out).mono ?_
  rintro x w1 ⟨rfl, hb⟩
  have HF1 := Lib.hid (show Fut wb w1 from hb)
  clear hb
  obtain ⟨v, hv9⟩ : ∃ v, smallB N es = v := ⟨_, rfl⟩
  have HV := Lib.hid hv9
  rw [hv9]
  clear hv9
  have q0 := (HB.out.fut HF1.out).cell (i := 0) rfl
  have q1 := (HB.out.fut HF1.out).cell (i := 1) rfl
  cases v with
  | false =>
    go_wp2_with fail
    go_ret
    exact ⟨⟨false, rfl, fun h => by cases h⟩, HF.out.trans HF1.out⟩
  | true =>
    obtain ⟨h1, h2, h3, h4⟩ := smallB_parts HV.out
    obtain ⟨M, rfl⟩ : ∃ M : Nat, N = M := ⟨N.toNat, by have := (validB_parts h4).1; omega⟩
    have HVD := Lib.hid h4
    have hM : M ≤ 30 := by omega
    have HC2 := Lib.hid (fun w' (hf : Fut w w') => rsolve_any M A n c es w' HL.out (by have := HL.out; omega) h4 (fun e he => by have := h3 e he; omega) (HR.out.fut hf))
    clear h1 h2 h3 h4
    go_wp2_with fail
    refine (HC2.out _ (HF.out.trans HF1.out)).mono ?_
    rintro x w2 ⟨⟨V, vb, eb, rfl, hsol, hrow, _, _, _⟩, hb⟩
    have HF2 := Lib.hid (HF1.out.trans (show Fut w1 w2 from hb))
    have HSO := Lib.hid hsol
    have HRW := Lib.hid hrow
    clear hb q0 q1 hsol hrow
    go_wp2_with fail
    go_loopw [5] (fun i wr => ∃ j : Nat, j ≤ M ∧ i = .int .i64 j ∧ Hid (∀ k, k < j → (V k).s < INF) ∧ Hid (Fut w2 wr)) (fun i _ => M - (intOf i).toNat)
    case atStart => exact ⟨0, Nat.zero_le _, rfl, Lib.hid (fun k hk => by omega), Lib.hid (Fut.refl _)⟩
    case round =>
      obtain ⟨j, hj, rfl, HK, HFW⟩ := hrel
      have HFX := Lib.hid (HF2.out.trans HFW.out)
      by_cases hlt : j < M
      · have t1 := (HRW.out.fut HFW.out).s hlt
        by_cases hs : (V j).s < 1099511627776
        · have hs2 : ¬ (1099511627776 : Int) ≤ (V j).s := by omega
          have HS := Lib.hid (show (V j).s < INF from hs)
          clear hs
          go_wp2_with fail
          refine ⟨⟨j + 1, by omega, by go_num, Lib.hid (fun k hk => ?_), HFW⟩, by simp [intOf]; omega⟩
          by_cases e : k = j
          · subst e; exact HS.out
          · exact HK.out k (by omega)
        · have hs2 : (1099511627776 : Int) ≤ (V j).s := by omega
          clear hs
          go_wp2_with fail
          go_ret
          exact ⟨⟨false, rfl, fun h => by cases h⟩, HF.out.trans HFX.out⟩
      · have HAL := Lib.hid (show ∀ i, (V i).s < INF from fun i => by
          by_cases hi : i < M
          · exact HK.out i (by omega)
          · rw [sol_out HVD.out HSO.out (by omega)]; decide)
        go_wp2_with fail
        go_ret
        exact ⟨⟨true, rfl, fun _ => ⟨M, V, rfl, HV.out, HSO.out, HAL.out⟩⟩, HF.out.trans HFX.out⟩
end Go.Proofs.Ytoiffhoiklafhaa
/-
  Whether a derivation is a least one, walked.
-/
namespace Go.Proofs.Ytoiffhoiklafhaa
open Go.RowKit Go.Deep PK
attribute [local go_sem] Oper.lit Oper.litS fut_fut fut_drew World.cell?_alloc_some
attribute [local go_sem] fut_base_drew
/-- a least derivation of a node -/
def isL (N : Nat) (V : Nat → VV) (es : List EI) (r : Int) (d : PK.DT) : Bool := (decide (0 ≤ r) && decide (r < N)) && (PK.validD (EEs es) d r && (decide ((val (EEs es) d).c < INF) && decide (val (EEs es) d = V r.toNat)))
set_option maxHeartbeats 6400000 in
set_option maxRecDepth 4000 in
theorem fcont_any (N : Nat) (A : Option Addr) (n c : Nat) (es : List EI) (r : Int) (d : DI) (w : World) (V : Nat → VV) (hS : Sol (EEs es) V) (hl : es.length = n) (hn : n ≤ 1000) (hvd : validB N es = true) (htl : ∀ e ∈ es, e.t.length ≤ 4) (hR : RdE w A es) (hD : RdD w d) :
    Calls Try.prog 21 #[hv N A n c, .int .i64 r, dv d] w fun x w' => x = .returned (.bool (isL N V es r (toDT d))) ∧ Below w.heap.size w w' := by
  have HSO := Lib.hid hS
  have hn63 : n ≤ maxLen := by unfold maxLen; omega
  have htl' : ∀ e ∈ es, e.t.length ≤ 1000000 := fun e he => by have := htl e he; omega
  have HSV := Lib.hid (fun w' (hf : Fut w w') => solve_any N A n c es w' hl (by omega) hvd htl' (hR.fut hf))
  have HVA := Lib.hid (fun w' (hf : Fut w w') => dvalid_any N A n c es hl hn63 hvd d r w' (hR.fut hf) (hD.fut hf))
  have HVL := Lib.hid (fun w' (hf : Fut w w') (hv : PK.validD (EEs es) (toDT d) r = true) => dvalue_any N A n c es hl hn63 hvd htl' d r w' hv (hR.fut hf) (hD.fut hf))
  clear hS hl hn hvd htl hR hD hn63 htl'
  have HIS := Lib.hid (show isL N V es r (toDT d) = ((decide (0 ≤ r) && decide (r < N)) && (PK.validD (EEs es) (toDT d) r && (decide ((val (EEs es) (toDT d)).c < INF) && decide (val (EEs es) (toDT d) = V r.toNat)))) from rfl)
  obtain ⟨de, dA, dc, dk⟩ := d
  generalize toDT (.node de dA dc dk) = td at *
  simp only [dv, DI.e, DI.A, DI.c, DI.k] at HVA HVL ⊢
  obtain ⟨dn, hdn⟩ : ∃ dn, dn = dk.length := ⟨_, rfl⟩
  rw [← hdn] at HVA HVL ⊢
  clear hdn
  generalize isL N V es r td = il at *
  obtain ⟨wb, hwb⟩ : ∃ wb, wb = (w.alloc (.cells #[.int .i64 N, .slice A n c] 24)).alloc (.cells #[.int .i64 de, .slice dA dn dc] 36) := ⟨_, rfl⟩
  have HF := Lib.hid (show Fut w wb from by rw [hwb]; exact ((Fut.refl w).alloc _).alloc _)
  have HB := Lib.hid (show Blk wb w.heap.size 24 #[.int .i64 N, .slice A n c] from by rw [hwb]; (repeat (first | exact heap_new' _ _ _ (by first | rfl | (simp only [World.size_alloc])) | refine (blk_alloc_lt _ _ _ (by first | omega | (simp only [World.size_alloc]; omega))).trans ?_)))
  have HD := Lib.hid (show Blk wb (w.heap.size + 1) 36 #[.int .i64 de, .slice dA dn dc] from by rw [hwb]; (repeat (first | exact heap_new' _ _ _ (by first | rfl | (simp only [World.size_alloc])) | refine (blk_alloc_lt _ _ _ (by first | omega | (simp only [World.size_alloc]; omega))).trans ?_)))
  go_enter Try.func21, Try.ntmps21
  have hr3 : (0 ≤ r ∧ r < N) ∨ r < 0 ∨ (0 ≤ r ∧ (N : Int) ≤ r) := by omega
  rcases hr3 with ⟨hr0, hr1⟩ | hr0 | ⟨hr0, hr1⟩
  · obtain ⟨rt, rfl⟩ : ∃ rt : Nat, r = rt := ⟨r.toNat, by omega⟩
    have hrt : rt < N := by omega
    have HIL := Lib.hid (show il = (PK.validD (EEs es) td (rt : Int) && (decide ((val (EEs es) td).c < INF) && decide (val (EEs es) td = V rt))) from by rw [HIS.out, decide_eq_true hr0, decide_eq_true hr1]; rfl)
    go_wp2_with fail
    rw [← hwb]
    clear hwb
    refine (HVA.out _ HF.out).mono ?_
    rintro x w1 ⟨rfl, hb⟩
    have HF1 := Lib.hid (show Fut wb w1 from hb)
    obtain ⟨vd, hvd⟩ : ∃ vd, PK.validD (EEs es) td (rt : Int) = vd := ⟨_, rfl⟩
    have HVD := Lib.hid hvd
    rw [hvd]
    have q0 := (HB.out.fut HF1.out).cell (i := 0) rfl
    have q1 := (HB.out.fut HF1.out).cell (i := 1) rfl
    clear hb hvd HVA
    cases vd with
    | false =>
      go_wp2_with fail
      go_ret
      exact ⟨by rw [HIL.out, HVD.out]; rfl, HF.out.trans HF1.out⟩
    | true =>
      go_wp2_with fail
      refine (HSV.out _ (HF.out.trans HF1.out)).mono ?_
      rintro x w2 ⟨⟨V', vb, eb0, rfl, hsol, hrow, _, _, _⟩, hb⟩
      obtain rfl := HSO.out.unique hsol
      have HF2 := Lib.hid (HF1.out.trans (show Fut w1 w2 from hb))
      have HRV := Lib.hid hrow
      have q0 := (HB.out.fut HF2.out).cell (i := 0) rfl
      have q1 := (HB.out.fut HF2.out).cell (i := 1) rfl
      have d0 := (HD.out.fut HF2.out).cell (i := 0) rfl
      have d1 := (HD.out.fut HF2.out).cell (i := 1) rfl
      clear hb hsol hrow HSV
      go_wp2_with fail
      refine (HVL.out _ (HF.out.trans HF2.out) HVD.out).mono ?_
      rintro x w3 ⟨hx, hb⟩
      obtain ⟨y, hy⟩ : ∃ y, val (EEs es) td = y := ⟨_, rfl⟩
      obtain ⟨yc, ys⟩ := y
      have HY := Lib.hid hy
      rw [hy] at hx
      subst hx
      have f3 := (Fut.refl w3).alloc (.cells #[.int .i64 yc, .int .i64 ys] 46)
      have HFX := Lib.hid ((HF2.out.trans (show Fut w2 w3 from hb)).trans f3)
      have HRX := Lib.hid ((HRV.out.fut (show Fut w2 w3 from hb)).fut f3)
      have HBY := Lib.hid (show Blk (w3.alloc (.cells #[.int .i64 yc, .int .i64 ys] 46)) w3.heap.size 46 #[.int .i64 yc, .int .i64 ys] from heap_new' _ _ _ rfl)
      clear hb hy q0 q1 d0 d1 HVL f3 HRV
      go_wp2_with fail
      generalize w3.alloc (.cells #[.int .i64 yc, .int .i64 ys] 46) = w4 at *
      have t0 := cell_fut (HBY.out.cell (i := 0) rfl)
      have t1 := cell_fut (HBY.out.cell (i := 1) rfl)
      have t3 := cell_fut (HRX.out.c hrt)
      have t4 := cell_fut (HRX.out.s hrt)
      obtain ⟨zc, hzc⟩ : ∃ z, z = (V rt).c := ⟨_, rfl⟩
      obtain ⟨zs, hzs⟩ : ∃ z, z = (V rt).s := ⟨_, rfl⟩
      rw [← hzc] at t3
      rw [← hzs] at t4
      have HZ := Lib.hid (show il = (decide (yc < INF) && decide ((⟨yc, ys⟩ : VV) = ⟨zc, zs⟩)) from by
        rw [HIL.out, HVD.out, HY.out, hzc, hzs]; rfl)
      clear hzc hzs
      by_cases hfin : yc < 1099511627776
      · have HFN := Lib.hid (show yc < INF from hfin)
        have hd : Hid (yc = zc ∧ ys = zs) ∨ (Hid (¬ ys = zs) ∧ Hid (yc = zc)) ∨ Hid (¬ yc = zc) := by
          by_cases h1 : yc = zc
          · by_cases h2 : ys = zs
            · exact .inl (Lib.hid ⟨h1, h2⟩)
            · exact .inr (.inl ⟨Lib.hid h2, Lib.hid h1⟩)
          · exact .inr (.inr (Lib.hid h1))
        rcases hd with hd | ⟨hd, hd2⟩ | hd
        · have k1 : (yc = zc) = True := eq_true hd.out.1
          have k2 : (ys = zs) = True := eq_true hd.out.2
          have HIL2 := Lib.hid (show il = true from by rw [HZ.out, decide_eq_true HFN.out]; simp [hd.out.1, hd.out.2])
          refine wp_region_M o_forest_Contains_5 (by kernel_rfl) (by kernel_rfl) (by intro c a d v w h; cases d <;> exact h) ?_; unfold o_forest_Contains_5
          iterate 12 (refine wpF_h rfl rfl (fun K hK => ?_); go_simp; refine hK _ _ ?_; clear hK K)
          refine wpF_nil ?_
          go_wp2_with fail
          go_ret
          exact ⟨by rw [HIL2.out]; simp, HF.out.trans HFX.out.drew⟩
        · have k1 : (yc = zc) = True := eq_true hd2.out
          have k2 : (ys = zs) = False := eq_false hd.out
          have HIL2 := Lib.hid (show il = false from by rw [HZ.out, decide_eq_true HFN.out]; simp [hd.out])
          refine wp_region_M o_forest_Contains_5 (by kernel_rfl) (by kernel_rfl) (by intro c a d v w h; cases d <;> exact h) ?_; unfold o_forest_Contains_5
          iterate 12 (refine wpF_h rfl rfl (fun K hK => ?_); go_simp; refine hK _ _ ?_; clear hK K)
          refine wpF_nil ?_
          go_wp2_with fail
          go_ret
          exact ⟨by rw [HIL2.out]; simp, HF.out.trans HFX.out.drew⟩
        · have k1 : (yc = zc) = False := eq_false hd.out
          have HIL2 := Lib.hid (show il = false from by rw [HZ.out, decide_eq_true HFN.out]; simp [hd.out])
          refine wp_region_M o_forest_Contains_5 (by kernel_rfl) (by kernel_rfl) (by intro c a d v w h; cases d <;> exact h) ?_; unfold o_forest_Contains_5
          iterate 12 (refine wpF_h rfl rfl (fun K hK => ?_); go_simp; refine hK _ _ ?_; clear hK K)
          refine wpF_nil ?_
          go_wp2_with fail
          go_ret
          exact ⟨by rw [HIL2.out]; simp, HF.out.trans HFX.out.drew⟩
      · have HIL2 := Lib.hid (show il = false from by rw [HZ.out, decide_eq_false (show ¬ yc < INF from hfin)]; rfl)
        refine wp_region_M o_forest_Contains_5 (by kernel_rfl) (by kernel_rfl) (by intro c a d v w h; cases d <;> exact h) ?_; unfold o_forest_Contains_5
        iterate 4 (refine wpF_h rfl rfl (fun K hK => ?_); go_simp; refine hK _ _ ?_; clear hK K)
        iterate 6 (refine wpF_hs2 rfl rfl (fun K hK => ?_); go_simp; refine hK _ _ ?_; clear hK K)
        iterate 2 (refine wpF_h rfl rfl (fun K hK => ?_); go_simp; refine hK _ _ ?_; clear hK K)
        refine wpF_nil ?_
        go_wp2_with fail
        go_ret
        exact ⟨by rw [HIL2.out]; rfl, HF.out.trans HFX.out.drew⟩
  · have HIL := Lib.hid (show il = false from by rw [HIS.out, decide_eq_false (show ¬ 0 ≤ r by omega)]; rfl)
    go_wp2_with fail
    rw [← hwb]
    go_ret
    exact ⟨by rw [HIL.out]; rfl, HF.out⟩
  · have HIL := Lib.hid (show il = false from by rw [HIS.out, decide_eq_false (show ¬ r < N by omega), Bool.and_false]; rfl)
    go_wp2_with fail
    rw [← hwb]
    go_ret
    exact ⟨by rw [HIL.out]; rfl, HF.out⟩
end Go.Proofs.Ytoiffhoiklafhaa
/-
  The number of least derivations, as plain mathematics.
-/
namespace Go.Proofs.Ytoiffhoiklafhaa
open PK
/-- the product of a hyperedge -/
def cntE (O : Nat → Int) (e : EI) : Int := (e.t.map Int.toNat).foldl (fun a t => mulF a (O t)) 1
/-- the sum of a node -/
def cntN (V : Nat → VV) (es : List EI) (O : Nat → Int) (v : Nat) : Int := (es.filter (fun e => decide (e.h.toNat = v) && tgt V e)).foldl (fun s e => plusF s (cntE O e)) 0
def cntS (V : Nat → VV) (es : List EI) : Nat → Nat → Int
  | 0, _ => 0
  | f + 1, v => cntN V es (cntS V es f) v
/-- the number of least derivations of a node -/
def cnt (V : Nat → VV) (es : List EI) (v : Nat) : Int := cntS V es ((V v).s.toNat + 1) v
theorem fold_congr {α β : Type} {f g : β → α → β} : ∀ (l : List α) (b : β), (∀ x ∈ l, ∀ b, f b x = g b x) → l.foldl f b = l.foldl g b
  | [], _, _ => rfl
  | x :: l, b, h => by
    rw [List.foldl_cons, List.foldl_cons, h x (by simp)]
    exact fold_congr l _ (fun y hy => h y (by simp [hy]))
theorem cntE_congr {O P : Nat → Int} {e : EI} (h : ∀ t ∈ e.t, O t.toNat = P t.toNat) : cntE O e = cntE P e := by
  unfold cntE
  refine fold_congr _ _ (fun x hx b => ?_)
  obtain ⟨t, ht, rfl⟩ := List.mem_map.1 hx
  rw [h t ht]
theorem cntN_congr {V : Nat → VV} {es : List EI} {O P : Nat → Int} {v : Nat} (h : ∀ e ∈ es, e.h.toNat = v → tgt V e = true → ∀ t ∈ e.t, O t.toNat = P t.toNat) : cntN V es O v = cntN V es P v := by
  unfold cntN
  refine fold_congr _ _ (fun e he b => ?_)
  obtain ⟨h1, h2⟩ := List.mem_filter.1 he
  simp only [Bool.and_eq_true, decide_eq_true_eq] at h2
  rw [cntE_congr (h e h1 h2.1 h2.2)]
section
variable {V : Nat → VV} {es : List EI} (hV : ∀ v, okV (V v)) (hs : ∀ v, (V v).s < INF)
include hV hs
theorem tail_lt {e : EI} (ht : tgt V e = true) {t : Int} (hm : t ∈ e.t) : (V t.toNat).s.toNat < (V e.h.toNat).s.toNat := by
  have h1 := tgt_tail hV (hs _) ht hm
  have := (hV t.toNat).2.2.1
  omega
theorem cntS_stable : ∀ (m v : Nat), (V v).s.toNat < m → ∀ f g, (V v).s.toNat < f → (V v).s.toNat < g → cntS V es f v = cntS V es g v
  | 0, v, h => by omega
  | m + 1, v, h => by
    intro f g hf hg
    obtain ⟨f, rfl⟩ : ∃ k, f = k + 1 := ⟨f - 1, by omega⟩
    obtain ⟨g, rfl⟩ : ∃ k, g = k + 1 := ⟨g - 1, by omega⟩
    rw [cntS, cntS]
    refine cntN_congr (fun e _ hv ht t hm => ?_)
    have h1 := tail_lt hV hs ht hm
    rw [hv] at h1
    exact cntS_stable m _ (by omega) f g (by omega) (by omega)
theorem cnt_eq (v : Nat) : cnt V es v = cntN V es (cnt V es) v := by
  show cntN V es (cntS V es (V v).s.toNat) v = _
  refine cntN_congr (fun e _ hv ht t hm => ?_)
  have h1 := tail_lt hV hs ht hm
  rw [hv] at h1
  exact cntS_stable hV hs ((V v).s.toNat) _ h1 _ _ h1 (by omega)
/-- what obeys the recursion on a set closed under tight hyperedges is the number -/
theorem cnt_uniq {O : Nat → Int} {S : Nat → Prop} (hS : ∀ e ∈ es, tgt V e = true → S e.h.toNat → ∀ t ∈ e.t, S t.toNat) (hO : ∀ v, S v → O v = cntN V es O v) : ∀ (m v : Nat), (V v).s.toNat < m → S v → O v = cnt V es v
  | 0, v, h => by omega
  | m + 1, v, h => by
    intro hv
    rw [hO v hv, cnt_eq hV hs v]
    refine cntN_congr (fun e he hh ht t hm => ?_)
    have h1 := tail_lt hV hs ht hm
    rw [hh] at h1
    exact cnt_uniq hS hO m _ (by omega) (hS e he ht (by rw [hh]; exact hv) t hm)
end
/-! ### bounds -/
theorem cntE_bd {O : Nat → Int} (hO : ∀ v, 0 ≤ O v ∧ O v ≤ 1099511627776) (e : EI) : 0 ≤ cntE O e ∧ cntE O e ≤ 1099511627776 := by
  unfold cntE
  have : ∀ (l : List Nat) (a : Int), 0 ≤ a ∧ a ≤ 1099511627776 → 0 ≤ l.foldl (fun a t => mulF a (O t)) a ∧ l.foldl (fun a t => mulF a (O t)) a ≤ 1099511627776 := by
    intro l
    induction l with
    | nil => exact fun _ h => h
    | cons t l ih => exact fun a h => ih _ (mulF_bd h.1 (hO t).1)
  exact this _ _ (by decide)
theorem sum_bd {O : Nat → Int} (hO : ∀ v, 0 ≤ O v ∧ O v ≤ 1099511627776) : ∀ (l : List EI) (a : Int), 0 ≤ a ∧ a ≤ 1099511627776 → 0 ≤ l.foldl (fun s e => plusF s (cntE O e)) a ∧ l.foldl (fun s e => plusF s (cntE O e)) a ≤ 1099511627776 := by
  intro l
  induction l with
  | nil => exact fun _ h => h
  | cons e l ih => exact fun a h => ih _ (plusF_bd h.1 (cntE_bd hO e).1)
/-! ### orders of acyclic hypergraphs -/
theorem min_of {P : Nat → Prop} (f : Nat → Nat) (h : ∃ v, P v) : ∃ v, P v ∧ ∀ u, P u → f v ≤ f u := by
  obtain ⟨v, hv⟩ := h
  have : ∀ (m v : Nat), f v < m → P v → ∃ v, P v ∧ ∀ u, P u → f v ≤ f u := by
    intro m
    induction m with
    | zero => intro v h; omega
    | succ m ih =>
      intro v h hv
      by_cases hb : ∃ u, P u ∧ f u < f v
      · obtain ⟨u, hu, hlt⟩ := hb
        exact ih u (by omega) hu
      · refine ⟨v, hv, fun u hu => ?_⟩
        rcases Nat.lt_or_ge (f u) (f v) with h9 | h9
        · exact absurd ⟨u, hu, h9⟩ hb
        · exact h9
  exact this (f v + 1) v (by omega) hv
theorem undone {N : Nat} {D : Nat → Bool} (h : 0 < nF N D) : ∃ v, v < N ∧ D v = false := by
  unfold nF at h
  obtain ⟨v, hv⟩ := List.exists_mem_of_length_pos h
  obtain ⟨h1, h2⟩ := List.mem_filter.1 hv
  exact ⟨v, List.mem_range.1 h1, by simpa using h2⟩
theorem next_some {es : List EI} {N : Nat} (f : Nat → Nat) (hlt : ∀ e ∈ es, ∀ t ∈ e.t, t.toNat < N ∧ f t.toNat < f e.h.toNat) {D : Nat → Bool} (h : 0 < nF N D) : ∃ v, nextO es N D = some v := by
  obtain ⟨v, ⟨hv, hd⟩, hm⟩ := min_of (P := fun v => v < N ∧ D v = false) f (undone h)
  unfold nextO
  cases hn : (List.range N).find? (fun v => !(D v) && readyB es D v) with
  | some u => exact ⟨u, rfl⟩
  | none =>
    exfalso
    have h1 := List.find?_eq_none.1 hn v (List.mem_range.2 hv)
    apply h1
    simp only [Bool.and_eq_true, Bool.not_eq_true', hd, true_and]
    unfold readyB
    simp only [List.all_eq_true, List.mem_range, Bool.or_eq_true, bne_iff_ne, ne_eq]
    intro i hi
    by_cases hh : headAt es i = v
    · right
      intro t ht
      obtain ⟨e, he⟩ : ∃ e, es[i]? = some e := ⟨_, List.getElem?_eq_getElem hi⟩
      rw [tl_of he] at ht
      obtain ⟨y, hy, rfl⟩ := List.mem_map.1 ht
      obtain ⟨h3, h4⟩ := hlt e (List.mem_of_getElem? he) y hy
      rw [headAt_of he] at hh
      cases hD : D y.toNat with
      | true => rfl
      | false =>
        have := hm _ ⟨h3, hD⟩
        rw [hh] at h4
        omega
    · exact .inl hh
theorem ordS_some {es : List EI} {N : Nat} (f : Nat → Nat) (hlt : ∀ e ∈ es, ∀ t ∈ e.t, t.toNat < N ∧ f t.toNat < f e.h.toNat) : ∃ l, ordS es N = some l := by
  have : ∀ (k : Nat) (D : Nat → Bool) (l : List Nat), TI es N D l → nF N D = k → ∃ r, ordGo es N k D l = some r := by
    intro k
    induction k with
    | zero => intro D l _ _; exact ⟨l, by rw [ordGo]⟩
    | succ k ih =>
      intro D l hT hk
      obtain ⟨v, hv⟩ := next_some f hlt (D := D) (by omega)
      rw [ordGo, hv]
      have hT2 := hT.step hv
      refine ih _ _ hT2 ?_
      have h1 := hT2.cnt
      have h2 := hT.cnt
      simp only [List.length_append, List.length_cons, List.length_nil] at h1
      omega
  obtain ⟨r, hr⟩ := this N _ [] (TI.start es N) (by
    have := (TI.start es N).cnt
    simpa using this)
  exact ⟨r, hr⟩
/-! ### inside values obey the recursion -/
section
variable {α : Type} {Z z0 : α} {mul add : α → α → α} {es : List EI} {ws : List α} {n : Nat}
theorem nodeV_congr {O P : Nat → α} {v : Nat} (h : ∀ i, i < n → headAt es i = v → ∀ t ∈ tl es i, O t = P t) : nodeV Z z0 mul add es ws n O v = nodeV Z z0 mul add es ws n P v := by
  unfold nodeV
  refine fold_congr _ _ (fun i hi b => ?_)
  obtain ⟨h1, h2⟩ := mem_eof.1 hi
  have h3 : edgeV mul es O (ws.getD i z0) i = edgeV mul es P (ws.getD i z0) i := by
    unfold edgeV
    exact fold_congr _ _ (fun t ht b => by rw [h i h1 h2 t ht])
  rw [h3]
theorem insO_rec {N : Nat} {l : List Nat} (hl : ordS es N = some l) (hn : n = es.length) (_hh : ∀ e ∈ es, e.h.toNat < N) (v : Nat) (hv : v < N) : insO Z z0 mul add es ws n l v = nodeV Z z0 mul add es ws n (insO Z z0 mul add es ws n l) v := by
  obtain ⟨h1, h2, h3, h4, h5⟩ := ordS_top hl
  have key : ∀ p, p ≤ l.length → ∀ q u, q < p → l[q]? = some u → insO Z z0 mul add es ws n (l.take p) u = nodeV Z z0 mul add es ws n (insO Z z0 mul add es ws n (l.take p)) u := by
    intro p
    induction p with
    | zero => intro _ q u hq; omega
    | succ p ih =>
      intro hp q u hq hu
      obtain ⟨x, hx⟩ : ∃ x, l[p]? = some x := ⟨_, List.getElem?_eq_getElem (by omega)⟩
      have hst : insO Z z0 mul add es ws n (l.take (p + 1)) = insStep Z z0 mul add es ws n (insO Z z0 mul add es ws n (l.take p)) x := by
        unfold insO
        rw [List.take_add_one, hx, Option.toList_some, List.foldl_append]
        rfl
      have hne : ∀ i, i < n → headAt es i = u → ∀ t ∈ tl es i, t ≠ x := by
        intro i hi hiu t ht e
        subst e
        have := h5 i (by omega) (by rw [hiu]; exact h2 u (List.mem_of_getElem? hu)) t ht q p (by rw [hiu]; exact hu) hx
        omega
      have hcg : nodeV Z z0 mul add es ws n (insO Z z0 mul add es ws n (l.take (p + 1))) u = nodeV Z z0 mul add es ws n (insO Z z0 mul add es ws n (l.take p)) u := by
        refine nodeV_congr (fun i hi hiu t ht => ?_)
        rw [hst]
        exact upd_other _ _ _ _ (hne i hi hiu t ht)
      rw [hcg, hst]
      unfold insStep
      by_cases e : u = x
      · subst e; rw [upd_same]
      · rw [upd_other _ _ _ _ e]
        have hqp : q ≠ p := fun e2 => by
          subst e2
          rw [hx] at hu
          exact e (Option.some.inj hu).symm
        exact ih (by omega) q u (by omega) hu
  obtain ⟨p, hp⟩ := h4 v hv
  have := key l.length (Nat.le_refl _) p v (List.getElem?_eq_some_iff.1 hp).1 hp
  rwa [List.take_of_length_le (Nat.le_refl _)] at this
end
/-- sums over places are sums over hyperedges -/
theorem nodeV_ones {es : List EI} {O : Nat → Int} (v : Nat) : nodeV 0 0 mulF plusF es (List.replicate es.length 1) es.length O v = (es.filter (fun e => decide (e.h.toNat = v))).foldl (fun s e => plusF s (cntE O e)) 0 := by
  have key : ∀ k, k ≤ es.length → (eof es k v).foldl (fun s i => plusF s (edgeV mulF es O ((List.replicate es.length (1 : Int)).getD i 0) i)) 0 = ((es.take k).filter (fun e => decide (e.h.toNat = v))).foldl (fun s e => plusF s (cntE O e)) 0 := by
    intro k
    induction k with
    | zero => intro _; simp [eof]
    | succ k ih =>
      intro hk
      obtain ⟨e, he⟩ : ∃ e, es[k]? = some e := ⟨_, List.getElem?_eq_getElem (by omega)⟩
      rw [eof_succ, filt_succ he, headAt_of he]
      by_cases hv : e.h.toNat = v
      · rw [if_pos hv, if_pos (by simp [hv]), List.foldl_append, List.foldl_append, ih (by omega)]
        simp only [List.foldl_cons, List.foldl_nil]
        congr 1
        unfold edgeV cntE
        rw [tl_of he]
        congr 1
        rw [List.getD_eq_getElem?_getD, List.getElem?_replicate, if_pos (by omega)]
        rfl
      · rw [if_neg hv, if_neg (by simp [hv])]
        exact ih (by omega)
  have := key es.length (Nat.le_refl _)
  rw [List.take_of_length_le (Nat.le_refl _)] at this
  exact this
theorem fE_eq (N : Nat) (V : Nat → VV) (es : List EI) (r : Int) : fE N V es r = es.filter (fun e => rchB N V es r e.h.toNat && tgt V e) := by
  unfold fE fP tP
  rw [List.filter_filter]
  have : ∀ (l : List EI) (k : Nat) (p : EI → Bool), ((l.zipIdx k).filter (fun x => p x.1)).map Prod.fst = l.filter p := by
    intro l
    induction l with
    | nil => intro k p; rfl
    | cons a l ih =>
      intro k p
      rw [List.zipIdx_cons]
      by_cases h : p a = true
      · rw [List.filter_cons_of_pos (by exact h), List.filter_cons_of_pos h, List.map_cons, ih]
      · rw [List.filter_cons_of_neg (by exact h), List.filter_cons_of_neg h, ih]
  exact this es 0 (fun e => rchB N V es r e.h.toNat && tgt V e)
/-- the inside values of a forest are the numbers -/
theorem ins_cnt {N : Nat} {V : Nat → VV} {es : List EI} {r : Int} (hV : ∀ v, okV (V v)) (hs : ∀ v, (V v).s < INF) (hh : ∀ e ∈ es, e.h.toNat < N) {l : List Nat} (hl : ordS (fE N V es r) N = some l) (v : Nat) (hv : rchB N V es r v = true) (hvN : v < N) (ht : ∀ e ∈ es, ∀ t ∈ e.t, t.toNat < N) :
    insO 0 0 mulF plusF (fE N V es r) (List.replicate (fE N V es r).length 1) (fE N V es r).length l v = cnt V es v := by
  refine cnt_uniq hV hs (S := fun v => rchB N V es r v = true ∧ v < N) (fun e he htg hr t hm => ⟨rchB_step he htg hr.1 hm, ht e he t hm⟩) (fun u hu => ?_) _ v (Nat.lt_succ_self _) ⟨hv, hvN⟩
  rw [insO_rec hl rfl (fun e he => hh e (mem_fE.1 he).1) u hu.2, nodeV_ones]
  unfold cntN
  congr 1
  rw [fE_eq, List.filter_filter]
  refine List.filter_congr (fun e _ => ?_)
  by_cases h : e.h.toNat = u
  · simp [h, hu.1]
  · simp [h]
theorem forest_ord {N : Nat} {V : Nat → VV} {es : List EI} {r : Int} (hV : ∀ v, okV (V v)) (hs : ∀ v, (V v).s < INF) (ht : ∀ e ∈ es, ∀ t ∈ e.t, t.toNat < N) : ∃ l, ordS (fE N V es r) N = some l := by
  refine ordS_some (fun v => (V v).s.toNat) (fun e he t hm => ?_)
  obtain ⟨h1, h2, _⟩ := mem_fE.1 he
  exact ⟨ht e h1 t hm, tail_lt hV hs h2 hm⟩
end Go.Proofs.Ytoiffhoiklafhaa
/-
  The number of least derivations, walked.
-/
namespace Go.Proofs.Ytoiffhoiklafhaa
open Go.RowKit Go.Deep PK
attribute [local go_sem] Oper.lit Oper.litS fut_fut fut_drew World.cell?_alloc_some
attribute [local go_sem] fut_base_drew World.frozen?_setCell
theorem m_cnt_Zero (w : World) : (method 225 53 uu "Zero").run Try.prog w = .ok (82, uu) w := by kernel_rfl
theorem c_cnt_Zero (args : Array Value) (w : World) : (callFunc 82 args).run Try.prog w = .ok (.enter 82 args) w := by kernel_rfl
theorem m_cnt_Mul (w : World) : (method 225 53 uu "Mul").run Try.prog w = .ok (81, uu) w := by kernel_rfl
theorem c_cnt_Mul (args : Array Value) (w : World) : (callFunc 81 args).run Try.prog w = .ok (.enter 81 args) w := by kernel_rfl
theorem m_cnt_Add (w : World) : (method 225 53 uu "Add").run Try.prog w = .ok (80, uu) w := by kernel_rfl
theorem c_cnt_Add (args : Array Value) (w : World) : (callFunc 80 args).run Try.prog w = .ok (.enter 80 args) w := by kernel_rfl
theorem n_cnt_Mul (w : World) : (nilAhead 225 53 uu "Mul").run Try.prog w = .ok (some false) w := by kernel_rfl
theorem inside_cnt (N : Nat) (A B : Option Addr) (n c d : Nat) (es : List EI) (ws : List Int) (w : World) (hl : es.length = n) (hwl : ws.length = n) (hn : n ≤ 1000) (hval : validB N es = true) (htot : sumT es n ≤ 2000000) (hR : RdE w A es) (hRw : Rd1 w B ((Value.int .i64) ·) ws) (hwI : ∀ x ∈ ws, 0 ≤ x ∧ x ≤ 1099511627776) :
    Calls Try.prog 26 #[hv N A n c, .iface 53 uu, .slice B n d] w fun e w' => InsRes (Value.int .i64) w' e N (insO 0 0 mulF plusF es ws n) (ordS es N) ∧ Below w.heap.size w w' :=
  insideI_any 53 82 81 80 0 mulF plusF (fun x => 0 ≤ x ∧ x ≤ 1099511627776) m_cnt_Zero m_cnt_Mul n_cnt_Mul m_cnt_Add c_cnt_Zero c_cnt_Mul c_cnt_Add cntZero_any (fun a b w ha hb => cntMul_any a b ha.1 ha.2 hb.1 hb.2 w) (fun a b w ha hb => cntAdd_any a b ha.1 ha.2 hb.1 hb.2 w)
    (by decide) (by decide) (fun a b ha hb => mulF_bd ha.1 hb.1) (fun a b ha hb => plusF_bd ha.1 hb.1) N A B n c d es ws w hl hwl hn hval htot hR hRw hwI
theorem forest_valid {N : Nat} {V : Nat → VV} {es : List EI} {r : Int} (h : validB N es = true) : validB N (fE N V es r) = true := by
  obtain ⟨h1, h2, h3⟩ := validB_parts h
  simp only [validB, Bool.and_eq_true, decide_eq_true_eq, List.all_eq_true]
  exact ⟨⟨h1, h2⟩, fun e he => h3 e (mem_fE.1 he).1⟩
theorem forest_sum {N : Nat} {V : Nat → VV} {es : List EI} {r : Int} (h : ∀ e ∈ es, e.t.length ≤ 4) (hn : es.length ≤ 1000) : sumT (fE N V es r) (fE N V es r).length ≤ 2000000 := by
  have h1 := sumT_le (es := fE N V es r) (fun e he => h e (mem_fE.1 he).1) (fE N V es r).length
  have := fE_le N V es r
  omega
/-- the number that Count answers -/
def cntR (N : Nat) (V : Nat → VV) (es : List EI) (r : Int) : Int := if 0 ≤ r ∧ r < N then cnt V es r.toNat else 0
set_option maxHeartbeats 6400000 in
set_option maxRecDepth 4000 in
theorem fCount_any (N : Nat) (A : Option Addr) (n c : Nat) (es : List EI) (r : Int) (w : World) (V : Nat → VV) (hS : Sol (EEs es) V) (hs : ∀ i, (V i).s < INF) (hl : es.length = n) (hn : n ≤ 1000) (hvd : validB N es = true) (htl : ∀ e ∈ es, e.t.length ≤ 4) (hR : RdE w A es) :
    Calls Try.prog 18 #[hv N A n c, .int .i64 r] w fun x w' => x = .returned (.int .i64 (cntR N V es r)) ∧ Below w.heap.size w w' := by
  have HFT := Lib.hid (fun w' (hf : Fut w w') => fTight_any N A n c es r w' V hS hl hn hvd htl (hR.fut hf))
  obtain ⟨m, hm⟩ : ∃ m, (fP N V es r).length = m := ⟨_, rfl⟩
  have hml : (fE N V es r).length = m := by unfold fE; rw [List.length_map, hm]
  have hmn : m ≤ 1000 := by rw [← hml]; exact Nat.le_trans (fE_le N V es r) (by omega)
  have h3 := (validB_parts hvd).2.2
  obtain ⟨l, hol⟩ := forest_ord (r := r) (N := N) hS.ok hs (fun e he t ht => by have := (okE_parts (h3 e he)).2.2.2.2 t ht; omega)
  have HIN := Lib.hid (fun XA Xc B d w' (hr : RdE w' XA (fE N V es r)) (hw : Rd1 w' B ((Value.int .i64) ·) (List.replicate m 1)) => inside_cnt N XA B m Xc d (fE N V es r) (List.replicate m 1) w' hml (List.length_replicate) hmn (forest_valid hvd) (by have := forest_sum (N := N) (V := V) (r := r) htl (by omega); rw [hml] at this; exact this) hr hw (fun x hx => by rw [(List.mem_replicate.1 hx).2]; decide))
  rw [hol] at HIN
  have HCN := Lib.hid (fun v (hv : rchB N V es r v = true) (hvN : v < N) => by
    have := ins_cnt (N := N) (r := r) hS.ok hs (fun e he => by have := (okE_parts (h3 e he)).1; have := (okE_parts (h3 e he)).2.1; omega) hol v hv hvN (fun e he t ht => by have := (okE_parts (h3 e he)).2.2.2.2 t ht; omega)
    rw [hml] at this
    exact this)
  have hmk := run_make_row' (P := Try.prog) 27 3 (.int .i64 0) 8 Try.underlying27 info_int rfl .i64 .i64 m (by omega) (by omega)
  have HMM := Lib.hid hm
  rw [hm] at HFT
  clear hS hs hl hn hvd htl hR hm hml h3 hol
  obtain ⟨wb, hwb⟩ : ∃ wb, wb = w.alloc (.cells #[.int .i64 N, .slice A n c] 24) := ⟨_, rfl⟩
  have HF := Lib.hid (show Fut w wb from by rw [hwb]; exact (Fut.refl w).alloc _)
  have HB := Lib.hid (show Blk wb w.heap.size 24 #[.int .i64 N, .slice A n c] from by rw [hwb]; exact heap_new' _ _ _ rfl)
  go_enter Try.func18, Try.ntmps18
  have hr3 : (0 ≤ r ∧ r < N) ∨ r < 0 ∨ (0 ≤ r ∧ (N : Int) ≤ r) := by omega
  rcases hr3 with ⟨hr0, hr1⟩ | hr0 | ⟨hr0, hr1⟩
  · obtain ⟨rt, rfl⟩ : ∃ rt : Nat, r = rt := ⟨r.toNat, by omega⟩
    have hrt : rt < N := by omega
    have HCR := Lib.hid (show cntR N V es (rt : Int) = cnt V es rt from by unfold cntR; rw [if_pos ⟨hr0, hr1⟩, Int.toNat_natCast])
    have HRR := Lib.hid (show rchB N V es (rt : Int) rt = true from by have := rchB_root (V := V) (es := es) hr0 hr1; rwa [Int.toNat_natCast] at this)
    have q0 := HB.out.cell (i := 0) rfl
    have q1 := HB.out.cell (i := 1) rfl
    go_wp2_with fail
    rw [← hwb]
    clear hwb
    refine (HFT.out _ HF.out).mono ?_
    rintro x w1 ⟨⟨XA, Xc, GA, Gc, rfl, hre, hrf⟩, hb⟩
    have HF1 := Lib.hid (show Fut wb w1 from hb)
    have HE1 := Lib.hid hre
    clear hb hre hrf HFT q0 q1
    go_wp2_with fail
    obtain ⟨gb, hgb⟩ : ∃ gb, gb = w1.heap.size := ⟨_, rfl⟩
    rw [← hgb]
    obtain ⟨ob, hob⟩ : ∃ ob, ob = gb + 1 + 1 := ⟨_, rfl⟩
    try rw [← hob]
    obtain ⟨w2, hw2⟩ : ∃ w2, w2 = (w1.alloc (.cells #[.int .i64 N, .slice XA m Xc] 24)).alloc (.cells #[] 53) := ⟨_, rfl⟩
    obtain ⟨w3, hw3⟩ : ∃ w3, w3 = w2.alloc (.cells (madeCells #[.int .i64 0] m) 3) := ⟨_, rfl⟩
    have HF3 := Lib.hid (show Fut w1 w3 from by rw [hw3, hw2]; exact (((Fut.refl w1).alloc _).alloc _).alloc _)
    have HBG := Lib.hid (show Blk w3 gb 24 #[.int .i64 N, .slice XA m Xc] from by rw [hw3, hw2, hgb]; exact Blk.alloc (Blk.alloc (heap_new' _ _ _ rfl) _) _)
    have HW0 := Lib.hid (show RowI w3 ob m (fun _ => 0) from by
      rw [hw3, hob, hgb]
      have := World.rowIs_made w2 (.int .i64 0) m 3
      rw [hw2] at this ⊢
      simp only [World.size_alloc] at this
      exact this)
    have hgo : gb ≠ ob := by omega
    have hob1 : w1.heap.size ≤ ob := by omega
    simp only [← hw2, ← hw3]
    clear hw2 hw3 hob hgb hmk
    go_loopw [33] (fun i wr => ∃ j : Nat, j ≤ m ∧ i = .int .i64 j ∧ Hid (RowI wr ob m (fun k => if k < j then 1 else 0)) ∧ Hid (Blk wr gb 24 #[.int .i64 N, .slice XA m Xc]) ∧ Hid (Fut w1 wr)) (fun i _ => m - (intOf i).toNat)
    case atStart => exact ⟨0, Nat.zero_le _, rfl, Lib.hid (HW0.out.congr' (fun k _ => (if_neg (Nat.not_lt_zero k)).symm)), HBG, HF3⟩
    case round =>
      clear HW0 HBG HF3
      obtain ⟨j, hj, rfl, HW0, HBG, HF3⟩ := hrel
      by_cases hlt : j < m
      · go_wp2_with fail
        refine (cntOne_any _).mono ?_
        rintro x w4 ⟨rfl, hb⟩
        have f4 : Fut wr w4 := hb
        have HW4 := Lib.hid (HW0.out.fut f4)
        have HBG4 := Lib.hid (HBG.out.fut f4)
        have HF4 := Lib.hid (HF3.out.trans f4)
        have g1 := World.rowIs.cell HW4.out hlt
        have g2 := World.rowIs.frozen HW4.out j
        clear hb f4
        go_wp2_with fail
        refine ⟨⟨j + 1, by omega, by go_num, Lib.hid ((HW4.out.set j 1).congr' (fun k _ => ?_)), Lib.hid (HBG4.out.setOther (a := ⟨ob, j, none⟩) (by simp only; omega) _), Lib.hid (HF4.out.setCell (p := ⟨ob, j, none⟩) hob1 _)⟩, by simp [intOf]; omega⟩
        by_cases e : k = j
        · subst e; rw [PK.upd_same, if_pos (by omega)]
        · rw [PK.upd_other _ _ _ _ e]
          by_cases e2 : k < j
          · rw [if_pos e2, if_pos (by omega)]
          · rw [if_neg e2, if_neg (by omega)]
      · have hjm : j = m := by omega
        have hones : Rd1 wr (some ⟨ob, 0, none⟩) (Value.int .i64 ·) (List.replicate m 1) := by
          have h9 := rd_row (f := Value.int .i64) HW0.out
          have h8 : (List.range m).map (fun k => if k < j then (1 : Int) else 0) = List.replicate m 1 := by
            apply List.ext_getElem?
            intro k
            rw [List.getElem?_map, List.getElem?_replicate]
            by_cases hk : k < m
            · rw [List.getElem?_range hk, if_pos hk, Option.map_some, if_pos (by omega)]
            · rw [List.getElem?_eq_none (by simp; omega), if_neg hk]; rfl
          rw [h8] at h9
          exact h9
        have HON := Lib.hid hones
        have b0 := HBG.out.cell (i := 0) rfl
        have b1 := HBG.out.cell (i := 1) rfl
        clear hjm hones
        go_wp2_with fail
        refine (HIN.out XA Xc (some ⟨ob, 0, none⟩) m wr (HE1.out.fut HF3.out) HON.out).mono ?_
        rintro x w4 ⟨hir, hb⟩
        obtain ⟨cb, rfl, hrd⟩ := hir
        have HF4 := Lib.hid (HF1.out.trans (HF3.out.trans (show Fut wr w4 from hb)))
        obtain ⟨b5, o5, hb5, hc5⟩ := hrd rt _ (show ((List.range N).map _)[rt]? = _ from by rw [List.getElem?_map, List.getElem?_range hrt, Option.map_some])
        simp only [Option.some.injEq, Addr.mk.injEq] at hb5
        obtain ⟨rfl, rfl, _⟩ := hb5
        rw [HCN.out rt HRR.out hrt] at hc5
        simp only [Nat.zero_add] at hc5
        clear hb hrd b0 b1 HIN HCN
        go_wp2_with fail
        go_ret
        exact ⟨by rw [HCR.out]; rfl, HF.out.trans HF4.out⟩
  · have HCR := Lib.hid (show cntR N V es r = 0 from by unfold cntR; rw [if_neg (by omega)])
    go_wp2_with fail
    rw [← hwb]
    go_ret
    exact ⟨by rw [HCR.out]; rfl, HF.out⟩
  · have HCR := Lib.hid (show cntR N V es r = 0 from by unfold cntR; rw [if_neg (by omega)])
    have q0 := HB.out.cell (i := 0) rfl
    rw [hwb] at q0
    go_wp2_with fail
    rw [← hwb]
    go_ret
    exact ⟨by rw [HCR.out]; rfl, HF.out⟩
end Go.Proofs.Ytoiffhoiklafhaa
