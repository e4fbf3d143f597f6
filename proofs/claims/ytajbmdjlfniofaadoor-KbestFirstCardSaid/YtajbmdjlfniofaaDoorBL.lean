/-
  Texts joined: Valid of the reference, Small; What is bounded; The laws of the enumeration: what a law may be asked; Equal of the reference; The laws of the enumeration: Same; The example of the document, in plain mathematics; What every law asks first: the example of the document.
-/
import Derived.Test.YtajbmdjlfniofaaDoorBF
import Derived.Test.YtajbmdjlfniofaaDoorBN
import Derived.Test.YtajbmdjlfniofaaDoorBK
/-
  Valid of the reference, Small.
-/
namespace Go.Proofs.YtajbmdjlfniofaaDoor
open Go.RowKit
attribute [local go_sem] Oper.lit Oper.litS fut_fut fut_drew World.cell?_alloc_some
set_option maxHeartbeats 6400000 in
theorem rValid_any (N : Int) (A : Option Addr) (n c : Nat) (es : List EI) (w : World) (hl : es.length = n) (hn : n ≤ maxLen) (hR : RdE w A es) :
  Calls Tryd.prog 44 #[hv N A n c] w fun e w' => e = .returned (.bool (validB N es)) ∧ Below w.heap.size w w' := by
 have hn' : n ≤ 9223372036854775807 := hn
 have HR := Lib.hid hR
 have HL := Lib.hid hl
 clear hR hl hn
 by_cases hN : 1 ≤ N ∧ N ≤ 1048576
 ·
  obtain ⟨hN1, hN2⟩ := hN
  have q0 : ∀ dd os, (fut (w.alloc (.cells #[.int .i64 N, .slice A n c] 24)) dd os).cell? ⟨w.heap.size, 0, none⟩ = some (.int .i64 N) := cell_fut (by (repeat (first | exact (cell_al_new _ _ _ _ _ _ (by first | rfl | (simp only [World.size_alloc]))).trans rfl | refine (cell_al_old _ _ _ (by first | omega | (simp only [World.size_alloc]; omega))).trans ?_)))
  have q1 : ∀ dd os, (fut (w.alloc (.cells #[.int .i64 N, .slice A n c] 24)) dd os).cell? ⟨w.heap.size, 1, none⟩ = some (.slice A n c) := cell_fut (by (repeat (first | exact (cell_al_new _ _ _ _ _ _ (by first | rfl | (simp only [World.size_alloc]))).trans rfl | refine (cell_al_old _ _ _ (by first | omega | (simp only [World.size_alloc]; omega))).trans ?_)))
  go_enter Tryd.func44, Tryd.ntmps44
  go_wp2_with fail
  have HS := Lib.hid (HR.out.fut ((Fut.refl w).alloc (.cells #[.int .i64 N, .slice A n c] 24)))
  have HW := Lib.hid ((Fut.refl w).alloc (.cells #[.int .i64 N, .slice A n c] 24))
  generalize w.alloc (.cells #[.int .i64 N, .slice A n c] 24) = wb at *
  go_loopw [3] (fun i wr => ∃ j : Nat, j ≤ n ∧ i = .int .i64 j ∧ Hid ((es.take j).all (okE N) = true) ∧ Fut wb wr) (fun i _ => n - (intOf i).toNat)
  case atStart => exact ⟨0, Nat.zero_le _, rfl, Lib.hid (by simp), Fut.refl _⟩
  case round =>
   obtain ⟨j, hj, rfl, hall, hF⟩ := hrel
   obtain ⟨dd, oo, rfl⟩ := fut_of hF
   by_cases hlt : j < n
   ·
    obtain ⟨x, hx⟩ := get_lt HL.out hlt
    obtain ⟨b, o, rfl, hc⟩ := HS.out.1 j x hx
    obtain ⟨ht, htl⟩ := (HS.out.2 x (List.mem_of_getElem? hx))
    have HT := Lib.hid (ht.fut hF)
    have HX := Lib.hid hx
    obtain ⟨xh, xt, xc, xl0, xl1, xA, xk⟩ := x
    have c0 := hF.cell (hc 0 _ (by decide) rfl)
    have c1 := hF.cell (hc 1 _ (by decide) rfl)
    have c2 := hF.cell (hc 2 _ (by decide) rfl)
    have c3 := hF.cell (hc 3 _ (by decide) rfl)
    have c4 := hF.cell (hc 4 _ (by decide) rfl)
    simp only [Nat.add_zero] at c0
    clear hx hc ht hF
    by_cases g1 : (0 ≤ xh ∧ xh < N) ∧ 0 ≤ xc ∧ xc ≤ 1099511627776
    ·
     obtain ⟨⟨g1, g1'⟩, g2, g3⟩ := g1
     have HO : ∀ b : Bool, xt.all (inB' N) = b → Hid (okE N ⟨xh, xt, xc, xl0, xl1, xA, xk⟩ = b) := fun b hb => Lib.hid (by simp [okE, inB', g1, g1', g2, g3] at hb ⊢; exact hb)
     have HOO := Lib.hid HO
     clear HO
     have htl' : xt.length ≤ 9223372036854775807 := htl
     go_wp2_with fail
     have HT2 := Lib.hid (HT.out.fut ((Fut.refl _).alloc (.cells #[.int .i64 xh, .slice xA xt.length xk, .int .i64 xc, .int .i64 xl0, .int .i64 xl1] 49)))
     have HF2 := Lib.hid ((Fut.fut wb dd oo).alloc (.cells #[.int .i64 xh, .slice xA xt.length xk, .int .i64 xc, .int .i64 xl0, .int .i64 xl1] 49))
     have hN0 : ((fut wb dd oo).alloc (.cells #[.int .i64 xh, .slice xA xt.length xk, .int .i64 xc, .int .i64 xl0, .int .i64 xl1] 49)).cell? ⟨w.heap.size, 0, none⟩ = some (.int .i64 N) := Fut.cell ((Fut.refl _).alloc _) (q0 dd oo)
     have hT1 : ((fut wb dd oo).alloc (.cells #[.int .i64 xh, .slice xA xt.length xk, .int .i64 xc, .int .i64 xl0, .int .i64 xl1] 49)).cell? ⟨(fut wb dd oo).heap.size, 1, none⟩ = some (.slice xA xt.length xk) := by (repeat (first | exact (cell_al_new _ _ _ _ _ _ (by first | rfl | (simp only [World.size_alloc]))).trans rfl | refine (cell_al_old _ _ _ (by first | omega | (simp only [World.size_alloc]; omega))).trans ?_))
     have hq1 : ((fut wb dd oo).alloc (.cells #[.int .i64 xh, .slice xA xt.length xk, .int .i64 xc, .int .i64 xl0, .int .i64 xl1] 49)).cell? ⟨w.heap.size, 1, none⟩ = some (.slice (some ⟨b, o, none⟩) n c) := Fut.cell ((Fut.refl _).alloc _) (q1 dd oo)
     clear c0 c1 c2 c3 c4
     generalize (fut wb dd oo).alloc (.cells #[.int .i64 xh, .slice xA xt.length xk, .int .i64 xc, .int .i64 xl0, .int .i64 xl1] 49) = wi at *
     go_loopw [5] (fun i wr => ∃ k : Nat, k ≤ xt.length ∧ i = .int .i64 k ∧ Hid ((xt.take k).all (inB' N) = true) ∧ Fut wi wr) (fun i _ => xt.length - (intOf i).toNat)
     case atStart => exact ⟨0, Nat.zero_le _, rfl, Lib.hid (by simp), Fut.refl _⟩
     case round =>
      obtain ⟨k, hk, rfl, hall2, hFi⟩ := hrel
      obtain ⟨d2, o2, rfl⟩ := fut_of hFi
      have r1 : ∀ d3 os, (fut wi d3 os).cell? ⟨(fut wb dd oo).heap.size, 1, none⟩ = some (.slice xA xt.length xk) := cell_fut hT1
      have r0 : ∀ dd os, (fut wi dd os).cell? ⟨w.heap.size, 0, none⟩ = some (.int .i64 N) := cell_fut hN0
      by_cases hkt : k < xt.length
      ·
       obtain ⟨y, hy⟩ := get_lt rfl hkt
       obtain ⟨b2, o3, rfl, hc2⟩ := HT2.out k y hy
       have r2 : ∀ dd os, (fut wi dd os).cell? ⟨b2, o3 + k, none⟩ = some (.int .i64 y) := cell_fut hc2
       have HY := Lib.hid hy
       have HFI := Lib.hid hFi
       clear hy hc2 hFi
       by_cases y1 : 0 ≤ y
       ·
        by_cases y2 : y < N
        ·
         have HOK := Lib.hid (take_all hall2.out HY.out (show inB' N y = true from by simp [inB', y1, y2]))
         have g4 : (y < 0) = False := eq_false (by omega)
         have g5 : (N ≤ y) = False := eq_false (by omega)
         go_wp2_with fail
         refine wp_region_M o_emendateref27_Valid_12 (by kernel_rfl) (by kernel_rfl) (by intro c a d v w h; cases d <;> exact h) ?_; unfold o_emendateref27_Valid_12
         iterate 16 (refine wpF_h rfl rfl (fun K hK => ?_); go_simp; refine hK _ _ ?_; clear hK K)
         refine wpF_nil ?_
         go_wp2_with fail
         exact ⟨⟨k + 1, by omega, by go_num, HOK, HFI.out.drew⟩, by simp [intOf]; omega⟩
        ·
         have hfin : validB N es = false := by
          have h1 := all_not HX.out (HOO.out false (all_not HY.out (by simp [inB', y2]))).out
          simp [validB, h1]
         have HFin := Lib.hid hfin
         have g4 : (y < 0) = False := eq_false (by omega)
         have g5 : (N ≤ y) = True := eq_true (by omega)
         clear hfin
         go_wp2_with fail
         refine wp_region_M o_emendateref27_Valid_12 (by kernel_rfl) (by kernel_rfl) (by intro c a d v w h; cases d <;> exact h) ?_; unfold o_emendateref27_Valid_12
         iterate 16 (refine wpF_h rfl rfl (fun K hK => ?_); go_simp; refine hK _ _ ?_; clear hK K)
         refine wpF_nil ?_
         go_wp2_with fail
         go_ret
         exact ⟨by rw [HFin.out]; rfl, HW.out.trans (HF2.out.trans HFI.out.drew)⟩
       ·
        have hfin : validB N es = false := by
         have h1 := all_not HX.out (HOO.out false (all_not HY.out (by simp [inB', y1]))).out
         simp [validB, h1]
        have HFin := Lib.hid hfin
        have g4 : (y < 0) = True := eq_true (by omega)
        clear hfin
        go_wp2_with fail
        refine wp_region_M o_emendateref27_Valid_12 (by kernel_rfl) (by kernel_rfl) (by intro c a d v w h; cases d <;> exact h) ?_; unfold o_emendateref27_Valid_12
        iterate 7 (refine wpF_h rfl rfl (fun K hK => ?_); go_simp; refine hK _ _ ?_; clear hK K)
        iterate 8 (refine wpF_hs2 rfl rfl (fun K hK => ?_); go_simp; refine hK _ _ ?_; clear hK K)
        (refine wpF_h rfl rfl (fun K hK => ?_); go_simp; refine hK _ _ ?_; clear hK K)
        refine wpF_nil ?_
        go_wp2_with fail
        go_ret
        exact ⟨by rw [HFin.out]; rfl, HW.out.trans (HF2.out.trans HFI.out.drew)⟩
      ·
       have hok := (HOO.out true (all_take hall2.out (by omega))).out
       have HK := Lib.hid (take_all hall.out HX.out hok)
       clear hok
       go_wp2_with fail
       exact ⟨⟨j + 1, by omega, by go_num, HK, HF2.out.trans (Fut.fut _ _ _)⟩, by simp [intOf]; omega⟩
    ·
     have hfin : validB N es = false := by
      have h1 : okE N ⟨xh, xt, xc, xl0, xl1, xA, xk⟩ = false := by
       cases h : okE N ⟨xh, xt, xc, xl0, xl1, xA, xk⟩ with
       | false => rfl
       | true => exact absurd (by simp [okE, inB'] at h; exact ⟨h.1.1.1, h.1.1.2, h.1.2⟩) g1
      simp [validB, all_not HX.out h1]
     have HFin := Lib.hid hfin
     clear hfin
     have hg : xh < 0 ∨ (0 ≤ xh ∧ N ≤ xh) ∨ (0 ≤ xh ∧ xh < N ∧ xc < 0) ∨ (0 ≤ xh ∧ xh < N ∧ 0 ≤ xc ∧ 1099511627776 < xc) := by omega
     clear g1
     rcases hg with g1 | ⟨g1, g2⟩ | ⟨g1, g2, g3⟩ | ⟨g1, g2, g3, g4⟩
     all_goals
      go_wp2_with fail
      go_ret
      exact ⟨by rw [HFin.out]; rfl, HW.out.trans ((Fut.fut _ _ _).alloc _)⟩
   ·
    have hfin : validB N es = true := by
     have h1 := all_take hall.out (by rw [HL.out]; omega)
     simp [validB, h1, hN1, hN2]
    have HFin := Lib.hid hfin
    clear hfin
    go_wp2_with fail
    go_ret
    exact ⟨by rw [HFin.out]; rfl, HW.out.trans (Fut.fut _ _ _)⟩
 ·
  have hvb : validB N es = false := by
   unfold validB
   by_cases h1 : 1 ≤ N
   ·
    have : ¬ N ≤ 1048576 := fun h => hN ⟨h1, h⟩
    simp [this]
   ·
    simp [h1]
  have HVb := Lib.hid hvb
  clear hvb
  by_cases h1 : 1 ≤ N
  ·
   have h2 : 1048576 < N := by omega
   clear hN
   go_enter Tryd.func44, Tryd.ntmps44
   go_wp2_with fail
   go_ret
   exact ⟨by rw [HVb.out]; rfl, (Fut.refl w).alloc _⟩
  ·
   have h2 : N < 1 := by omega
   clear hN h1
   go_enter Tryd.func44, Tryd.ntmps44
   go_wp2_with fail
   go_ret
   exact ⟨by rw [HVb.out]; rfl, (Fut.refl w).alloc _⟩
set_option maxHeartbeats 3200000 in
theorem small_any (N : Int) (A : Option Addr) (n c : Nat) (es : List EI) (w : World) (hl : es.length = n) (hn : n ≤ maxLen) (hR : RdE w A es) :
  Calls Tryd.prog 31 #[hv N A n c] w fun e w' => e = .returned (.bool (smallB N es)) ∧ Below w.heap.size w w' := by
 have hn' : n ≤ 9223372036854775807 := hn
 have HN := Lib.hid hn
 have HR := Lib.hid hR
 have HL := Lib.hid hl
 clear hR hl hn
 by_cases hN : N ≤ 30 ∧ n ≤ 60
 ·
  obtain ⟨hN1, hN2⟩ := hN
  have x0 : (w.alloc (.cells #[.int .i64 N, .slice A n c] 24)).cell? ⟨w.heap.size, 0, none⟩ = some (.int .i64 N) := by (repeat (first | exact (cell_al_new _ _ _ _ _ _ (by first | rfl | (simp only [World.size_alloc]))).trans rfl | refine (cell_al_old _ _ _ (by first | omega | (simp only [World.size_alloc]; omega))).trans ?_))
  have x1 : (w.alloc (.cells #[.int .i64 N, .slice A n c] 24)).cell? ⟨w.heap.size, 1, none⟩ = some (.slice A n c) := by (repeat (first | exact (cell_al_new _ _ _ _ _ _ (by first | rfl | (simp only [World.size_alloc]))).trans rfl | refine (cell_al_old _ _ _ (by first | omega | (simp only [World.size_alloc]; omega))).trans ?_))
  go_enter Tryd.func31, Tryd.ntmps31
  go_wp2_with fail
  have HS := Lib.hid (HR.out.fut ((Fut.refl w).alloc (.cells #[.int .i64 N, .slice A n c] 24)))
  have HW := Lib.hid ((Fut.refl w).alloc (.cells #[.int .i64 N, .slice A n c] 24))
  generalize w.alloc (.cells #[.int .i64 N, .slice A n c] 24) = wb at *
  go_loopw [3] (fun i wr => ∃ j : Nat, j ≤ n ∧ i = .int .i64 j ∧ Hid ((es.take j).all (fun e => decide (e.t.length ≤ 4)) = true) ∧ wr = wb) (fun i _ => n - (intOf i).toNat)
  case atStart => exact ⟨0, Nat.zero_le _, rfl, Lib.hid (by simp), rfl⟩
  case round =>
   obtain ⟨j, hj, rfl, hall, rfl⟩ := hrel
   by_cases hlt : j < n
   ·
    obtain ⟨x, hx⟩ := get_lt HL.out hlt
    obtain ⟨b, o, rfl, hc⟩ := HS.out.1 j x hx
    have hxl : x.t.length ≤ 9223372036854775807 := (HS.out.2 x (List.mem_of_getElem? hx)).2
    have HX := Lib.hid hx
    have c1 := hc 1 _ (by decide) rfl
    clear hx hc
    obtain ⟨xh, xt, xc, xl0, xl1, xA, xk⟩ := x
    simp only at c1 hxl
    by_cases h4 : xt.length ≤ 4
    ·
     have HOK := Lib.hid (take_all hall.out HX.out (show decide (xt.length ≤ 4) = true from decide_eq_true h4))
     go_wp2_with fail
     exact ⟨⟨j + 1, by omega, by go_num, HOK, by first | rfl | trivial⟩, by simp [intOf]; omega⟩
    ·
     have hfin : smallB N es = false := by
      have h1 := all_not (p := fun e : EI => decide (e.t.length ≤ 4)) HX.out (decide_eq_false h4)
      unfold smallB
      rw [h1]; simp
     have HFin := Lib.hid hfin
     clear hfin
     go_wp2_with fail
     go_ret
     exact ⟨by rw [HFin.out]; rfl, HW.out⟩
   ·
    have hfin : smallB N es = validB N es := by
     have h1 := all_take hall.out (by rw [HL.out]; omega)
     unfold smallB
     rw [h1, HL.out]; simp [hN1, hN2]
    have HFin := Lib.hid hfin
    clear hfin
    go_wp2_with (go_at_call 44; refine (rValid_any N A n c es _ HL.out HN.out HS.out).mono ?_; rintro e w1 ⟨rfl, hb1⟩; have f1 : Fut _ w1 := hb1; clear hb1)
    go_ret
    exact ⟨by rw [HFin.out]; rfl, HW.out.trans (by assumption)⟩
 ·
  have hvb : smallB N es = false := by
   unfold smallB
   rw [HL.out]
   by_cases h1 : N ≤ 30
   ·
    have : ¬ n ≤ 60 := fun h => hN ⟨h1, h⟩
    simp [this]
   ·
    simp [h1]
  have HVb := Lib.hid hvb
  clear hvb
  by_cases h1 : N ≤ 30
  ·
   have h2 : 60 < n := by omega
   clear hN
   go_enter Tryd.func31, Tryd.ntmps31
   go_wp2_with fail
   go_ret
   exact ⟨by rw [HVb.out]; rfl, (Fut.refl w).alloc _⟩
  ·
   have h2 : 30 < N := by omega
   clear hN h1
   go_enter Tryd.func31, Tryd.ntmps31
   go_wp2_with fail
   go_ret
   exact ⟨by rw [HVb.out]; rfl, (Fut.refl w).alloc _⟩
end Go.Proofs.YtajbmdjlfniofaaDoor
/-
  What is bounded.
-/
namespace Go.Proofs.YtajbmdjlfniofaaDoor
open Go.RowKit Go.Deep PK
attribute [local go_sem] Oper.lit Oper.litS fut_fut fut_drew World.cell?_alloc_some
theorem sol_out {N : Nat} {es : List EI} {V : Nat → VV} (hvd : validB N es = true) (hV : Sol (EEs es) V) {i : Nat} (hi : N ≤ i) : V i = top := by
 rcases hV.attained (EEs_ok hvd) i with h | ⟨e, he, h1, _⟩
 ·
  exact h
 ·
  obtain ⟨x, hx, rfl⟩ := List.mem_map.1 he
  have := okE_parts ((validB_parts hvd).2.2 x hx)
  simp only [toEE] at h1
  omega
set_option maxHeartbeats 3200000 in
set_option maxRecDepth 4000 in
theorem bounded_any (N : Int) (A : Option Addr) (n c : Nat) (es : List EI) (w : World) (hl : es.length = n) (hn : n ≤ maxLen) (hR : RdE w A es) :
  Calls Tryd.prog 22 #[hv N A n c] w fun x w' => (∃ b, x = .returned (.bool b) ∧ (b = true → ∃ (M : Nat) (V : Nat → VV), N = M ∧ smallB N es = true ∧ Sol (EEs es) V ∧ ∀ i, (V i).s < INF)) ∧ Below w.heap.size w w' := by
 have HC1 := Lib.hid (fun w' (hf : Fut w w') => small_any N A n c es w' hl hn (hR.fut hf))
 have HL := Lib.hid hl
 have HR := Lib.hid hR
 clear hl hn hR
 have HB := Lib.hid (show Blk (w.alloc (.cells #[.int .i64 N, .slice A n c] 24)) w.heap.size 24 #[.int .i64 N, .slice A n c] from heap_new' _ _ _ rfl)
 have HF := Lib.hid (show Fut w (w.alloc (.cells #[.int .i64 N, .slice A n c] 24)) from (Fut.refl w).alloc _)
 go_enter Tryd.func22, Tryd.ntmps22
 go_wp2_with fail
 generalize w.alloc (.cells #[.int .i64 N, .slice A n c] 24) = wb at *
 refine (HC1.out _ HF.out).mono ?_
 rintro x w1 ⟨rfl, hb⟩
 have HF1 := Lib.hid (show Fut wb w1 from hb)
 clear hb
 obtain ⟨v, hv9⟩ : ∃ v, smallB N es = v := ⟨_, rfl⟩
 have HV := Lib.hid hv9
 rw [hv9]
 clear hv9
 have q0 := (HB.out.fut HF1.out).cell (i := 0) rfl
 have q1 := (HB.out.fut HF1.out).cell (i := 1) rfl
 cases v with
 | false =>
  go_wp2_with fail
  go_ret
  exact ⟨⟨false, rfl, fun h => by cases h⟩, HF.out.trans HF1.out⟩
 | true =>
  obtain ⟨h1, h2, h3, h4⟩ := smallB_parts HV.out
  obtain ⟨M, rfl⟩ : ∃ M : Nat, N = M := ⟨N.toNat, by have := (validB_parts h4).1; omega⟩
  have HVD := Lib.hid h4
  have hM : M ≤ 30 := by omega
  have HC2 := Lib.hid (fun w' (hf : Fut w w') => rsolve_any M A n c es w' HL.out (by have := HL.out; omega) h4 (fun e he => by have := h3 e he; omega) (HR.out.fut hf))
  clear h1 h2 h3 h4
  go_wp2_with fail
  refine (HC2.out _ (HF.out.trans HF1.out)).mono ?_
  rintro x w2 ⟨⟨V, vb, eb, rfl, hsol, hrow, _, _, _⟩, hb⟩
  have HF2 := Lib.hid (HF1.out.trans (show Fut w1 w2 from hb))
  have HSO := Lib.hid hsol
  have HRW := Lib.hid hrow
  clear hb q0 q1 hsol hrow
  go_wp2_with fail
  go_loopw [5] (fun i wr => ∃ j : Nat, j ≤ M ∧ i = .int .i64 j ∧ Hid (∀ k, k < j → (V k).s < INF) ∧ Hid (Fut w2 wr)) (fun i _ => M - (intOf i).toNat)
  case atStart => exact ⟨0, Nat.zero_le _, rfl, Lib.hid (fun k hk => by omega), Lib.hid (Fut.refl _)⟩
  case round =>
   obtain ⟨j, hj, rfl, HK, HFW⟩ := hrel
   have HFX := Lib.hid (HF2.out.trans HFW.out)
   by_cases hlt : j < M
   ·
    have t1 := (HRW.out.fut HFW.out).s hlt
    by_cases hs : (V j).s < 1099511627776
    ·
     have hs2 : ¬ (1099511627776 : Int) ≤ (V j).s := by omega
     have HS := Lib.hid (show (V j).s < INF from hs)
     clear hs
     go_wp2_with fail
     refine ⟨⟨j + 1, by omega, by go_num, Lib.hid (fun k hk => ?_), HFW⟩, by simp [intOf]; omega⟩
     by_cases e : k = j
     ·
      subst e; exact HS.out
     ·
      exact HK.out k (by omega)
    ·
     have hs2 : (1099511627776 : Int) ≤ (V j).s := by omega
     clear hs
     go_wp2_with fail
     go_ret
     exact ⟨⟨false, rfl, fun h => by cases h⟩, HF.out.trans HFX.out⟩
   ·
    have HAL := Lib.hid (show ∀ i, (V i).s < INF from fun i => by
     by_cases hi : i < M
     ·
      exact HK.out i (by omega)
     ·
      rw [sol_out HVD.out HSO.out (by omega)]; decide)
    go_wp2_with fail
    go_ret
    exact ⟨⟨true, rfl, fun _ => ⟨M, V, rfl, HV.out, HSO.out, HAL.out⟩⟩, HF.out.trans HFX.out⟩
end Go.Proofs.YtajbmdjlfniofaaDoor
/-
  The laws of the enumeration: what a law may be asked.
-/
namespace Go.Proofs.YtajbmdjlfniofaaDoor
open Go.RowKit Go.Deep PK
attribute [local go_sem] Oper.lit Oper.litS fut_fut fut_drew World.cell?_alloc_some
attribute [local go_sem] World.frozen?_setCell
def FewR (N : Int) (n : Nat) (es : List EI) (e : Ending) : Prop := ∃ b, e = .returned (.bool b) ∧ (b = true → N ≤ 8 ∧ n ≤ 12 ∧ ∀ e ∈ es, e.t.length ≤ 3)
set_option maxHeartbeats 6400000 in
theorem few_any (N : Int) (A : Option Addr) (n c : Nat) (es : List EI) (w : World) (hl : es.length = n) (hn : n ≤ maxLen) (hR : RdE w A es) :
  Calls Tryd.prog 21 #[hv N A n c, .int .i64 8, .int .i64 12] w fun r w' => FewR N n es r ∧ Fut w w' := by
 obtain ⟨w0, hw0⟩ : ∃ w0, w0 = w.alloc (.cells #[.int .i64 N, .slice A n c] 24) := ⟨_, rfl⟩
 have HF := Lib.hid (show Fut w w0 from by rw [hw0]; exact (Fut.refl w).alloc _)
 have hB : Blk w0 w.heap.size 24 #[.int .i64 N, .slice A n c] := by rw [hw0]; exact Blk.new _ _ _
 have HR := Lib.hid (hR.fut HF.out)
 have HL := Lib.hid hl
 have hn2 : (n : Int) ≤ 9223372036854775807 := by unfold maxLen at hn; omega
 have b0 := hB.cell (i := 0) rfl
 have b1 := hB.cell (i := 1) rfl
 clear hR hl hn hB
 by_cases h8 : 8 < N
 ·
  go_enter Tryd.func21, Tryd.ntmps21
  go_wp2_with fail
  rw [← hw0]
  go_returns
  exact ⟨⟨false, rfl, fun h => by cases h⟩, HF.out⟩
 ·
  by_cases h12 : 12 < n
  ·
   have h12' : (12 : Int) < (n : Int) := by omega
   go_enter Tryd.func21, Tryd.ntmps21
   go_wp2_with fail
   rw [← hw0]
   go_returns
   exact ⟨⟨false, rfl, fun h => by cases h⟩, HF.out⟩
  ·
   have h12' : ¬ (12 : Int) < (n : Int) := by omega
   go_enter Tryd.func21, Tryd.ntmps21
   go_wp2_with fail
   rw [← hw0]
   have h00 : ∀ i, i < 0 → ∀ x, es[i]? = some x → x.t.length ≤ 3 := fun i h => by omega
   clear hw0
   have HW0 := HF
   obtain ⟨wz, hwz⟩ : ∃ wz, wz = w0 := ⟨_, rfl⟩
   have HWZ := Lib.hid hwz
   clear hwz
   go_loopw [7] (fun i wr => ∃ j : Nat, j ≤ n ∧ i = .int .i64 j ∧ wr = wz ∧ ∀ i, i < j → ∀ x, es[i]? = some x → x.t.length ≤ 3) (fun i _ => n - (intOf i).toNat)
   case atStart => exact ⟨0, Nat.zero_le _, rfl, HWZ.out.symm, h00⟩
   case round =>
    obtain ⟨j, hj, rfl, hw, hall⟩ := hrel
    have hz := HWZ.out
    subst hz
    subst hw
    have HA := Lib.hid hall
    clear hall
    by_cases hjn : j < n
    ·
     obtain ⟨x, hx⟩ := get_lt HL.out hjn
     obtain ⟨eb, eo, rfl, hce⟩ := HR.out.1 j x hx
     have c1 := hce 1 _ (by decide) rfl
     have HX := Lib.hid hx
     clear hx hce
     by_cases h3 : 3 < x.t.length
     ·
      have h3' : (3 : Int) < (x.t.length : Int) := by omega
      go_wp2_with fail
      go_returns
      exact ⟨⟨false, rfl, fun h => by cases h⟩, HW0.out⟩
     ·
      have h3' : ¬ (3 : Int) < (x.t.length : Int) := by omega
      go_wp2_with fail
      refine ⟨⟨j + 1, by omega, by go_num, (by first | rfl | trivial), fun i hi y hy => ?_⟩, by simp [intOf]; omega⟩
      by_cases e : i = j
      ·
       subst e
       rw [HX.out] at hy
       obtain rfl := Option.some.inj hy
       omega
      ·
       exact HA.out i (by omega) y hy
    ·
     go_wp2_with fail
     go_returns
     refine ⟨⟨true, rfl, fun _ => ⟨by omega, by omega, fun e he => ?_⟩⟩, HW0.out⟩
     obtain ⟨i, hi⟩ := List.getElem?_of_mem he
     exact HA.out i (by have := (List.getElem?_eq_some_iff.1 hi).1; have := HL.out; omega) e hi
/-- what a law is asked -/
structure MayOK (N : Int) (n : Nat) (es : List EI) (root : Int) (M : Nat) (V : Nat → VV) : Prop where
 e : N = M
 vd : validB N es = true
 m8 : M ≤ 8
 n12 : n ≤ 12
 tl : ∀ e ∈ es, e.t.length ≤ 3
 S : Sol (EEs es) V
 s : ∀ i, (V i).s < INF
 r0 : 0 ≤ root
 r1 : root < N
def MayR (N : Int) (n : Nat) (es : List EI) (root : Int) (e : Ending) : Prop := ∃ b, e = .returned (.bool b) ∧ (b = true → ∃ M V, MayOK N n es root M V)
set_option maxHeartbeats 6400000 in
theorem may_any (N : Int) (A : Option Addr) (n c : Nat) (es : List EI) (root : Int) (w : World) (hl : es.length = n) (hn : n ≤ maxLen) (hR : RdE w A es) :
  Calls Tryd.prog 10 #[hv N A n c, .int .i64 root] w fun r w' => MayR N n es root r ∧ Fut w w' := by
 have HF := Lib.hid (show Fut w (w.alloc (.cells #[.int .i64 N, .slice A n c] 24)) from (Fut.refl w).alloc _)
 have HB := Lib.hid (show Blk (w.alloc (.cells #[.int .i64 N, .slice A n c] 24)) w.heap.size 24 #[.int .i64 N, .slice A n c] from Blk.new _ _ _)
 have HFW := Lib.hid (few_any N A n c es _ hl hn (hR.fut HF.out))
 have HBN := Lib.hid (fun w' (hf : Fut w w') => bounded_any N A n c es w' hl hn (hR.fut hf))
 clear hl hn hR
 go_enter Tryd.func10, Tryd.ntmps10
 go_wp2_with fail
 refine HFW.out.mono ?_
 rintro r w1 ⟨⟨b, rfl, hb⟩, hf⟩
 have HF1 := Lib.hid (HF.out.trans hf)
 have HB1 := Lib.hid (HB.out.fut hf)
 have HBB := Lib.hid hb
 clear hb hf
 cases b with
 | false =>
  go_wp2_with fail
  go_returns
  exact ⟨⟨false, rfl, fun h => by cases h⟩, HF1.out⟩
 | true =>
  have q0 := HB1.out.cell (i := 0) rfl
  have q1 := HB1.out.cell (i := 1) rfl
  go_wp2_with fail
  refine (HBN.out _ HF1.out).mono ?_
  rintro r w2 ⟨⟨b, rfl, hb⟩, hf⟩
  have hf' : Fut w1 w2 := hf
  have HF2 := Lib.hid (HF1.out.trans hf')
  have HB2 := Lib.hid (HB1.out.fut hf')
  have HBC := Lib.hid hb
  clear hb hf hf' q0 q1
  cases b with
  | false =>
   go_wp2_with fail
   go_returns
   exact ⟨⟨false, rfl, fun h => by cases h⟩, HF2.out⟩
  | true =>
   have q0 := HB2.out.cell (i := 0) rfl
   by_cases hr0 : 0 ≤ root
   ·
    by_cases hr1 : root < N
    ·
     go_wp2_with fail
     go_returns
     refine ⟨⟨true, rfl, fun _ => ?_⟩, HF2.out⟩
     obtain ⟨M, V, h1, h2, h3, h4⟩ := HBC.out (by first | rfl | trivial)
     obtain ⟨k1, k2, k3⟩ := HBB.out (by first | rfl | trivial)
     exact ⟨M, V, h1, (smallB_parts h2).2.2.2, by omega, k2, k3, h3, h4, hr0, hr1⟩
    ·
     go_wp2_with fail
     go_returns
     exact ⟨⟨decide (root < N), rfl, fun h => by have := of_decide_eq_true h; omega⟩, HF2.out⟩
   ·
    go_wp2_with fail
    go_returns
    exact ⟨⟨false, rfl, fun h => by cases h⟩, HF2.out⟩
end Go.Proofs.YtajbmdjlfniofaaDoor
/-
  Equal of the reference.
-/
namespace Go.Proofs.YtajbmdjlfniofaaDoor
open Go.RowKit
attribute [local go_sem] Oper.lit Oper.litS fut_fut fut_drew World.cell?_alloc_some
set_option maxHeartbeats 3200000 in
theorem equal_any (a : DI) : ∀ b w, RdD w a → RdD w b → Calls Tryd.prog 23 #[dv a, dv b] w fun r w' => r = .returned (.bool (PK.eqD (toDT a) (toDT b))) ∧ Below w.heap.size w w' := by
 induction a using DI.ind with
 | h e A c k ih =>
  rintro ⟨f, B, d, l⟩ w hR hR2
  obtain ⟨hS, hkl, hK⟩ := hR.parts
  obtain ⟨hS2, hll, hL2⟩ := hR2.parts
  have HS := Lib.hid hS
  have HK := Lib.hid hK
  have HS2 := Lib.hid hS2
  have HK2 := Lib.hid hL2
  have HI := Lib.hid ih
  obtain ⟨n, hn⟩ : ∃ n, k.length = n := ⟨_, rfl⟩
  obtain ⟨m, hm⟩ : ∃ m, l.length = m := ⟨_, rfl⟩
  have hn63 : n ≤ 9223372036854775807 := hn ▸ hkl
  have hm63 : m ≤ 9223372036854775807 := hm ▸ hll
  have HL := Lib.hid hn
  have HM := Lib.hid hm
  simp only [dv, DI.e, DI.A, DI.c, DI.k, hn, hm]
  clear hS hK hR ih hkl hn hS2 hL2 hR2 hll hm
  by_cases hef : e = f
  ·
   subst hef
   by_cases hnm : n = m
   ·
    subst hnm
    have HG := Lib.hid (show k.map toDT = l.map toDT → PK.eqD (toDT (.node e A c k)) (toDT (.node e B d l)) = true from fun h => by rw [toDT_eq, toDT_eq, h, PK.eqD_iff])
    have HB := Lib.hid (show ¬ k.map toDT = l.map toDT → PK.eqD (toDT (.node e A c k)) (toDT (.node e B d l)) = false from fun h => by
     cases h9 : PK.eqD (toDT (.node e A c k)) (toDT (.node e B d l)) with
     | false => rfl
     | true =>
      rw [toDT_eq, toDT_eq, PK.eqD_iff] at h9
      injection h9 with h10 h11
      exact absurd h11 h)
    generalize PK.eqD (toDT (.node e A c k)) (toDT (.node e B d l)) = res at HG HB ⊢
    have HF := Lib.hid (show Fut w ((w.alloc (.cells #[.int .i64 e, .slice A n c] 35)).alloc (.cells #[.int .i64 e, .slice B n d] 35)) from ((Fut.refl w).alloc _).alloc _)
    have q1 : ((w.alloc (.cells #[.int .i64 e, .slice A n c] 35)).alloc (.cells #[.int .i64 e, .slice B n d] 35)).cell? ⟨w.heap.size, 1, none⟩ = some (.slice A n c) := by (repeat (first | exact (cell_al_new _ _ _ _ _ _ (by first | rfl | (simp only [World.size_alloc]))).trans rfl | refine (cell_al_old _ _ _ (by first | omega | (simp only [World.size_alloc]; omega))).trans ?_))
    have q2 : ((w.alloc (.cells #[.int .i64 e, .slice A n c] 35)).alloc (.cells #[.int .i64 e, .slice B n d] 35)).cell? ⟨w.heap.size + 1, 1, none⟩ = some (.slice B n d) := by (repeat (first | exact (cell_al_new _ _ _ _ _ _ (by first | rfl | (simp only [World.size_alloc]))).trans rfl | refine (cell_al_old _ _ _ (by first | omega | (simp only [World.size_alloc]; omega))).trans ?_))
    have Q1 := Lib.hid q1
    have Q2 := Lib.hid q2
    clear q1 q2
    go_enter Tryd.func23, Tryd.ntmps23
    go_wp2_with fail
    generalize (w.alloc (.cells #[.int .i64 e, .slice A n c] 35)).alloc (.cells #[.int .i64 e, .slice B n d] 35) = wb at *
    go_loopw [5] (fun i wr => ∃ j : Nat, j ≤ n ∧ i = .int .i64 j ∧ Hid ((k.take j).map toDT = (l.take j).map toDT) ∧ Fut wb wr) (fun i _ => n - (intOf i).toNat)
    case atStart => exact ⟨0, Nat.zero_le _, rfl, Lib.hid (by simp), Fut.refl _⟩
    case round =>
     obtain ⟨j, hj, rfl, hall, hF⟩ := hrel
     have HF2 := Lib.hid hF
     have q1 := hF.cell Q1.out
     have q2 := hF.cell Q2.out
     have q1' := cell_fut q1
     have q2' := cell_fut q2
     by_cases hlt : j < n
     ·
      obtain ⟨x, hx⟩ := get_lt HL.out hlt
      obtain ⟨y, hy⟩ := get_lt HM.out hlt
      obtain ⟨b, o, rfl, hc⟩ := HS.out j x hx
      obtain ⟨b2, o2, rfl, hd⟩ := HS2.out j y hy
      have HX := Lib.hid hx
      have HY := Lib.hid hy
      have c0 := cell_fut (hF.cell (HF.out.cell (hc 0 _ (by decide) rfl)))
      have c1 := cell_fut (hF.cell (HF.out.cell (hc 1 _ (by decide) rfl)))
      have d0 := cell_fut (hF.cell (HF.out.cell (hd 0 _ (by decide) rfl)))
      have d1 := cell_fut (hF.cell (HF.out.cell (hd 1 _ (by decide) rfl)))
      simp only [Nat.add_zero] at c0 d0
      have HC := Lib.hid (fun w' (hf : Fut wr w') => HI.out x (List.mem_of_getElem? hx) y w' ((((HK.out x (List.mem_of_getElem? hx)).fut HF.out).fut hF).fut hf) ((((HK2.out y (List.mem_of_getElem? hy)).fut HF.out).fut hF).fut hf))
      have HE := Lib.hid (PK.eqD_iff (toDT x) (toDT y))
      clear hx hy hc hd hF
      obtain ⟨xe, xA, xc, xk⟩ := x
      obtain ⟨ye, yA, yc, yk⟩ := y
      simp only [DI.e, DI.A, DI.c, DI.k] at c0 c1 d0 d1
      generalize PK.eqD (toDT (.node xe xA xc xk)) (toDT (.node ye yA yc yk)) = bb at HC HE
      go_wp2_with fail
      refine wp_region_M o_emendateref31_equal_6 (by kernel_rfl) (by kernel_rfl) (by intro c a d v w h; cases d <;> exact h) ?_; unfold o_emendateref31_equal_6
      iterate 10 (refine wpF_h rfl rfl (fun K hK => ?_); go_simp; refine hK _ _ ?_; clear hK K)
      (refine wpF_o rfl rfl (fun K hK => ?_); go_simp; first | (go_at_call 23; refine (HC.out _ (by first | exact Fut.fut _ _ _ | exact Fut.refl _ | exact (Fut.refl _).drew)).mono ?_; rintro e w1 ⟨rfl, hb1⟩; have hf1 : Fut _ w1 := hb1; refine hK _ _ (.inr hf1) ?_; clear hK K hb1))
      (refine wpF_h rfl rfl (fun K hK => ?_); go_simp; refine hK _ _ ?_; clear hK K)
      refine wpF_nil ?_
      cases bb with
      | true =>
       have HA := Lib.hid (map_take hall.out HX.out HY.out (HE.out.1 rfl))
       go_wp2_with fail
       exact ⟨⟨j + 1, by omega, by go_num, HA, HF2.out.trans (by show Fut _ _; repeat (first | (with_reducible assumption) | exact Fut.refl _ | exact Fut.fut _ _ _ | refine Fut.drew ?_ | refine Fut.alloc ?_ _ | refine Fut.trans ?_ (Fut.fut _ _ _) | refine Fut.trans ?_ (by assumption)))⟩, by simp [intOf]; omega⟩
      | false =>
       have HA := Lib.hid (HB.out (fun h => by
        have h1 := congrArg (·[j]?) h
        simp only [List.getElem?_map, HX.out, HY.out, Option.map_some, Option.some.injEq] at h1
        have := HE.out.2 h1
        cases this))
       go_wp2_with fail
       go_ret
       exact ⟨by rw [HA.out]; rfl, HF.out.trans (HF2.out.trans (by show Fut _ _; repeat (first | (with_reducible assumption) | exact Fut.refl _ | exact Fut.fut _ _ _ | refine Fut.drew ?_ | refine Fut.alloc ?_ _ | refine Fut.trans ?_ (Fut.fut _ _ _) | refine Fut.trans ?_ (by assumption))))⟩
     ·
      have HA := Lib.hid (HG.out (by
       have h9 := hall.out
       rw [List.take_of_length_le (by rw [HL.out]; omega), List.take_of_length_le (by rw [HM.out]; omega)] at h9
       exact h9))
      go_wp2_with fail
      go_ret
      exact ⟨by rw [HA.out]; rfl, HF.out.trans HF2.out⟩
   ·
    have HA := Lib.hid (show PK.eqD (toDT (.node e A c k)) (toDT (.node e B d l)) = false by
     cases h9 : PK.eqD (toDT (.node e A c k)) (toDT (.node e B d l)) with
     | false => rfl
     | true =>
      rw [toDT_eq, toDT_eq, PK.eqD_iff] at h9
      injection h9 with h10 h11
      have := congrArg List.length h11
      rw [List.length_map, List.length_map, HL.out, HM.out] at this
      exact absurd this hnm)
    have hx : ¬ (n : Int) = (m : Int) := by omega
    obtain ⟨x1, x2, x3⟩ := cmpF_no hx
    clear hx hnm
    go_enter Tryd.func23, Tryd.ntmps23
    go_wp2_with fail
    go_ret
    exact ⟨by rw [HA.out]; rfl, ((Fut.refl w).alloc _).alloc _⟩
  ·
   have HA := Lib.hid (show PK.eqD (toDT (.node e A c k)) (toDT (.node f B d l)) = false by
     cases h9 : PK.eqD (toDT (.node e A c k)) (toDT (.node f B d l)) with
     | false => rfl
     | true =>
      rw [toDT_eq, toDT_eq, PK.eqD_iff] at h9
      injection h9 with h10 h11
      exact absurd h10 hef)
   obtain ⟨x1, x2, x3⟩ := cmpF_no hef
   clear hef
   go_enter Tryd.func23, Tryd.ntmps23
   go_wp2_with fail
   go_ret
   exact ⟨by rw [HA.out]; rfl, ((Fut.refl w).alloc _).alloc _⟩
end Go.Proofs.YtajbmdjlfniofaaDoor
/-
  The laws of the enumeration: Same.
-/
namespace Go.Proofs.YtajbmdjlfniofaaDoor
open Go.RowKit Go.Deep PK
attribute [local go_sem] Oper.lit Oper.litS fut_fut fut_drew World.cell?_alloc_some
/-- the same trees -/
noncomputable def sameB (k l : List DI) : Bool := @decide (k.map toDT = l.map toDT) (Classical.propDecidable _)
theorem sameB_yes {k l : List DI} (h : k.map toDT = l.map toDT) : sameB k l = true := by unfold sameB; simp [h]
theorem sameB_no {k l : List DI} (h : ¬ k.map toDT = l.map toDT) : sameB k l = false := by unfold sameB; simp [h]
set_option maxHeartbeats 3200000 in
theorem same_any (N : Int) (A : Option Addr) (n0 c0 : Nat) (X : Option Addr) (xc : Nat) (Y : Option Addr) (yc : Nat) (k l : List DI) (w : World) (hkl : k.length ≤ maxLen) (hll : l.length ≤ maxLen) (hS : RdS w X 2 encD k) (hK : ∀ d ∈ k, RdD w d) (hS2 : RdS w Y 2 encD l) (hL2 : ∀ d ∈ l, RdD w d) :
  Calls Tryd.prog 12 #[hv N A n0 c0, .slice X k.length xc, .slice Y l.length yc] w fun r w' => r = .returned (.bool (sameB k l)) ∧ Fut w w' := by
 have HS := Lib.hid hS
 have HK := Lib.hid hK
 have HS2 := Lib.hid hS2
 have HK2 := Lib.hid hL2
 obtain ⟨n, hn⟩ : ∃ n, k.length = n := ⟨_, rfl⟩
 obtain ⟨m, hm⟩ : ∃ m, l.length = m := ⟨_, rfl⟩
 have hn63 : n ≤ 9223372036854775807 := by unfold maxLen at hkl; omega
 have hm63 : m ≤ 9223372036854775807 := by unfold maxLen at hll; omega
 have HL := Lib.hid hn
 have HM := Lib.hid hm
 rw [hn, hm]
 clear hS hK hkl hn hS2 hL2 hll hm
 by_cases hnm : n = m
 ·
  subst hnm
  have HG := Lib.hid (show k.map toDT = l.map toDT → sameB k l = true from sameB_yes)
  have HB := Lib.hid (show ¬ k.map toDT = l.map toDT → sameB k l = false from sameB_no)
  generalize sameB k l = res at HG HB ⊢
  obtain ⟨wb, hwb⟩ : ∃ wb, wb = w.alloc (.cells #[.int .i64 N, .slice A n0 c0] 24) := ⟨_, rfl⟩
  have HF := Lib.hid (show Fut w wb from by rw [hwb]; exact (Fut.refl w).alloc _)
  go_enter Tryd.func12, Tryd.ntmps12
  go_wp2_with fail
  rw [← hwb]
  clear hwb
  go_loopw [7] (fun i wr => ∃ j : Nat, j ≤ n ∧ i = .int .i64 j ∧ Hid ((k.take j).map toDT = (l.take j).map toDT) ∧ Fut wb wr) (fun i _ => n - (intOf i).toNat)
  case atStart => exact ⟨0, Nat.zero_le _, rfl, Lib.hid (by simp), Fut.refl _⟩
  case round =>
   obtain ⟨j, hj, rfl, hall, hF⟩ := hrel
   have HF2 := Lib.hid hF
   by_cases hlt : j < n
   ·
    obtain ⟨x, hx⟩ := get_lt HL.out hlt
    obtain ⟨y, hy⟩ := get_lt HM.out hlt
    obtain ⟨b, o, rfl, hc⟩ := HS.out j x hx
    obtain ⟨b2, o2, rfl, hd⟩ := HS2.out j y hy
    have HX := Lib.hid hx
    have HY := Lib.hid hy
    have c0 := cell_fut (hF.cell (HF.out.cell (hc 0 _ (by decide) rfl)))
    have c1 := cell_fut (hF.cell (HF.out.cell (hc 1 _ (by decide) rfl)))
    have d0 := cell_fut (hF.cell (HF.out.cell (hd 0 _ (by decide) rfl)))
    have d1 := cell_fut (hF.cell (HF.out.cell (hd 1 _ (by decide) rfl)))
    simp only [Nat.add_zero] at c0 d0
    have HC := Lib.hid (fun w' (hf : Fut wr w') => equal_any x y w' ((((HK.out x (List.mem_of_getElem? hx)).fut HF.out).fut hF).fut hf) ((((HK2.out y (List.mem_of_getElem? hy)).fut HF.out).fut hF).fut hf))
    have HE := Lib.hid (PK.eqD_iff (toDT x) (toDT y))
    clear hx hy hc hd hF
    obtain ⟨xe, xA, xc', xk⟩ := x
    obtain ⟨ye, yA, yc', yk⟩ := y
    simp only [DI.e, DI.A, DI.c, DI.k] at c0 c1 d0 d1
    generalize PK.eqD (toDT (.node xe xA xc' xk)) (toDT (.node ye yA yc' yk)) = bb at HC HE
    go_wp2_with fail
    refine wp_region_M o_emendateref31_Same_6 (by kernel_rfl) (by kernel_rfl) (by intro c a d v w h; cases d <;> exact h) ?_; unfold o_emendateref31_Same_6
    iterate 8 (refine wpF_h rfl rfl (fun K hK => ?_); go_simp; refine hK _ _ ?_; clear hK K)
    (refine wpF_o rfl rfl (fun K hK => ?_); go_simp; first | (go_at_call 23; refine (HC.out _ (by first | exact Fut.fut _ _ _ | exact Fut.refl _ | exact (Fut.refl _).drew)).mono ?_; rintro e w1 ⟨rfl, hb1⟩; have hf1 : Fut _ w1 := hb1; refine hK _ _ (.inr hf1) ?_; clear hK K hb1))
    (refine wpF_h rfl rfl (fun K hK => ?_); go_simp; refine hK _ _ ?_; clear hK K)
    refine wpF_nil ?_
    cases bb with
    | true =>
     have HA := Lib.hid (map_take hall.out HX.out HY.out (HE.out.1 rfl))
     go_wp2_with fail
     exact ⟨⟨j + 1, by omega, by go_num, HA, HF2.out.trans (by show Fut _ _; repeat (first | (with_reducible assumption) | exact Fut.refl _ | exact Fut.fut _ _ _ | refine Fut.drew ?_ | refine Fut.alloc ?_ _ | refine Fut.trans ?_ (Fut.fut _ _ _) | refine Fut.trans ?_ (by assumption)))⟩, by simp [intOf]; omega⟩
    | false =>
     have HA := Lib.hid (HB.out (fun h => by
      have h1 := congrArg (·[j]?) h
      simp only [List.getElem?_map, HX.out, HY.out, Option.map_some, Option.some.injEq] at h1
      have := HE.out.2 h1
      cases this))
     go_wp2_with fail
     go_ret
     exact ⟨by rw [HA.out]; rfl, HF.out.trans (HF2.out.trans (by show Fut _ _; repeat (first | (with_reducible assumption) | exact Fut.refl _ | exact Fut.fut _ _ _ | refine Fut.drew ?_ | refine Fut.alloc ?_ _ | refine Fut.trans ?_ (Fut.fut _ _ _) | refine Fut.trans ?_ (by assumption))))⟩
   ·
    have HA := Lib.hid (HG.out (by
     have h9 := hall.out
     rw [List.take_of_length_le (by rw [HL.out]; omega), List.take_of_length_le (by rw [HM.out]; omega)] at h9
     exact h9))
    go_wp2_with fail
    go_ret
    exact ⟨by rw [HA.out]; rfl, HF.out.trans HF2.out⟩
 ·
  have HA := Lib.hid (show sameB k l = false from sameB_no (fun h => by
   have := congrArg List.length h
   rw [List.length_map, List.length_map, HL.out, HM.out] at this
   exact hnm this))
  have hx : ¬ (n : Int) = (m : Int) := by omega
  obtain ⟨x1, x2, x3⟩ := cmpF_no hx
  clear hx hnm
  go_enter Tryd.func12, Tryd.ntmps12
  go_wp2_with fail
  go_ret
  exact ⟨by rw [HA.out]; rfl, (Fut.refl w).alloc _⟩
end Go.Proofs.YtajbmdjlfniofaaDoor
/-
  The example of the document, in plain mathematics.
-/
namespace Go.Proofs.YtajbmdjlfniofaaDoor
open Go.RowKit Go.Deep PK
def exK (A : Option Addr) : List EI := [⟨0, [], 1, 0, 0, none, 0⟩, ⟨0, [], 3, 0, 0, none, 0⟩, ⟨1, [0, 0], 0, 0, 0, A, 2⟩]
def exP : List EE := [⟨0, [], 1⟩, ⟨0, [], 3⟩, ⟨1, [0, 0], 0⟩]
theorem exK_P (A : Option Addr) : EEs (exK A) = exP := rfl
theorem exK_valid (A : Option Addr) : validB 2 (exK A) = true := by simp [validB, okE, inB', exK]
theorem exK_tl (A : Option Addr) : ∀ e ∈ exK A, e.t.length ≤ 3 := by
 intro e he
 simp only [exK, List.mem_cons, List.not_mem_nil, or_false] at he
 rcases he with rfl | rfl | rfl <;> simp
def exV (i : Nat) : VV := if i = 0 then ⟨1, 1⟩ else if i = 1 then ⟨2, 3⟩ else top
theorem exP_ok : ∀ e ∈ exP, PK.okE e := by
 intro e he
 simp only [exP, List.mem_cons, List.not_mem_nil, or_false] at he
 rcases he with rfl | rfl | rfl <;> (unfold PK.okE INF; decide)
theorem exV_ok (v : Nat) : okV (exV v) := by
 unfold exV
 split
 ·
  unfold okV INF; decide
 ·
  split
  ·
   unfold okV INF; decide
  ·
   exact okV_top
theorem exV_s (i : Nat) : (exV i).s < INF := by
 unfold exV
 split
 ·
  decide
 ·
  split
  ·
   decide
  ·
   unfold top; decide
theorem ex_ev : ev exV ⟨0, [], 1⟩ = ⟨1, 1⟩ ∧ ev exV ⟨0, [], 3⟩ = ⟨3, 1⟩ ∧ ev exV ⟨1, [0, 0], 0⟩ = ⟨2, 3⟩ := by
 refine ⟨?_, ?_, ?_⟩
 ·
  unfold ev comb; simp [INF]
 ·
  unfold ev comb; simp [INF]
 ·
  kernel_rfl
theorem ex_sol (A : Option Addr) : Sol (EEs (exK A)) exV := by
 rw [exK_P]
 have h0 : Reached exP exV 0 := Reached.by (K := exV) (⟨0, [], 1⟩ : EE) (by simp [exP]) (fun t ht => by simp at ht) (by rw [ex_ev.1]; rfl)
 have h1 : Reached exP exV 1 := Reached.by (K := exV) (⟨1, [0, 0], 0⟩ : EE) (by simp [exP]) (fun t ht => by
  simp at ht; subst ht; exact h0) (by rw [ex_ev.2.2]; rfl)
 refine sol_of_reached exP_ok exV_ok (fun v => ?_) (fun e he => ?_)
 ·
  by_cases e0 : v = 0
  ·
   subst e0; exact .inr h0
  ·
   by_cases e1 : v = 1
   ·
    subst e1; exact .inr h1
   ·
    left; unfold exV; rw [if_neg e0, if_neg e1]
 ·
  simp only [exP, List.mem_cons, List.not_mem_nil, or_false] at he
  rcases he with rfl | rfl | rfl
  ·
   rw [ex_ev.1]; exact leV_refl _
  ·
   rw [ex_ev.2.1]; unfold leV exV; left; decide
  ·
   rw [ex_ev.2.2]; exact leV_refl _
def tA : DT := .node 0 []
def tB : DT := .node 1 []
def W4 : List DT := [.node 2 [tA, tA], .node 2 [tA, tB], .node 2 [tB, tA], .node 2 [tB, tB]]
theorem ex_leaf {d : DT} (h : validD exP d 0 = true) : d = tA ∨ d = tB := by
 obtain ⟨e, k⟩ := d
 obtain ⟨E, h1, h2, h3, h4⟩ := (validD_iff exP _ _ _).1 h
 have hk : 0 ≤ e ∧ e < 3 := by
  unfold edge at h1
  split at h1
  ·
   have := (List.getElem?_eq_some_iff.1 h1).1
   simp only [exP, List.length_cons, List.length_nil] at this
   omega
  ·
   cases h1
 have h5 : e = 0 ∨ e = 1 ∨ e = 2 := by omega
 rcases h5 with rfl | rfl | rfl
 ·
  left
  have : E = ⟨0, [], 1⟩ := by simpa [edge, exP] using h1.symm
  subst this
  have : k = [] := by simpa using h3.symm
  rw [this]; rfl
 ·
  right
  have : E = ⟨0, [], 3⟩ := by simpa [edge, exP] using h1.symm
  subst this
  have : k = [] := by simpa using h3.symm
  rw [this]; rfl
 ·
  have : E = ⟨1, [0, 0], 0⟩ := by simpa [edge, exP] using h1.symm
  subst this
  simp at h2
theorem ex_all {d : DT} (h : validD exP d 1 = true) : d ∈ W4 := by
 obtain ⟨e, k⟩ := d
 obtain ⟨E, h1, h2, h3, h4⟩ := (validD_iff exP _ _ _).1 h
 have hk : 0 ≤ e ∧ e < 3 := by
  unfold edge at h1
  split at h1
  ·
   have := (List.getElem?_eq_some_iff.1 h1).1
   simp only [exP, List.length_cons, List.length_nil] at this
   omega
  ·
   cases h1
 have h5 : e = 0 ∨ e = 1 ∨ e = 2 := by omega
 rcases h5 with rfl | rfl | rfl
 ·
  have : E = ⟨0, [], 1⟩ := by simpa [edge, exP] using h1.symm
  subst this
  simp at h2
 ·
  have : E = ⟨0, [], 3⟩ := by simpa [edge, exP] using h1.symm
  subst this
  simp at h2
 ·
  have : E = ⟨1, [0, 0], 0⟩ := by simpa [edge, exP] using h1.symm
  subst this
  match k, h3 with
  | [x, y], _ =>
   have hx := ex_leaf (h4 0 x 0 rfl rfl)
   have hy := ex_leaf (h4 1 y 0 rfl rfl)
   rcases hx with rfl | rfl <;> rcases hy with rfl | rfl <;> simp [W4]
theorem ex_srt : cmpD exP (.node 2 [tA, tA]) (.node 2 [tA, tB]) < 0 ∧ cmpD exP (.node 2 [tA, tB]) (.node 2 [tB, tA]) < 0 ∧ cmpD exP (.node 2 [tB, tA]) (.node 2 [tB, tB]) < 0 := by
 refine ⟨?_, ?_, ?_⟩ <;> (refine of_decide_eq_true ?_; kernel_rfl)
theorem ex_val : ∀ d ∈ W4, validD exP d 1 = true ∧ (val exP d).c < INF := by
 intro d hd
 simp only [W4, List.mem_cons, List.not_mem_nil, or_false] at hd
 rcases hd with rfl | rfl | rfl | rfl <;> exact ⟨by kernel_rfl, by refine of_decide_eq_true ?_; kernel_rfl⟩
theorem ex_pre : PreD exP 1 W4 := by
 obtain ⟨s1, s2, s3⟩ := ex_srt
 have s12 := cmp_lt_le s1 (Int.le_of_lt s2)
 have s23 := cmp_lt_le s2 (Int.le_of_lt s3)
 have s13 := cmp_lt_le s12 (Int.le_of_lt s3)
 refine ⟨fun d hd => ex_val d hd, fun i j a b hij ha hb => ?_, fun d hd => .inl (ex_all hd.1)⟩
 have hj : j < 4 := (List.getElem?_eq_some_iff.1 hb).1
 have h5 : (i = 0 ∧ j = 1) ∨ (i = 0 ∧ j = 2) ∨ (i = 0 ∧ j = 3) ∨ (i = 1 ∧ j = 2) ∨ (i = 1 ∧ j = 3) ∨ (i = 2 ∧ j = 3) := by omega
 rcases h5 with ⟨rfl, rfl⟩ | ⟨rfl, rfl⟩ | ⟨rfl, rfl⟩ | ⟨rfl, rfl⟩ | ⟨rfl, rfl⟩ | ⟨rfl, rfl⟩ <;> (obtain rfl := Option.some.inj ha; obtain rfl := Option.some.inj hb; assumption)
theorem ex_full : FullD exP 1 W4 := fun _ hd => ex_all hd.1
/-- what First and some answer at the example -/
theorem ex_first {ks : List DT} {k : Nat} (h : PreD exP 1 ks) (hl : ks.length ≤ k) (hf : ks.length = k ∨ FullD exP 1 ks) : ks = W4.take k := by
 have h1 := ex_full.len ex_pre h
 have h2 := h.eq_take ex_pre h1
 rcases hf with h3 | h3
 ·
  rw [← h3]; exact h2
 ·
  have h4 := h3.len h ex_pre
  have h5 : W4.length = 4 := rfl
  have h6 : ks.length = 4 := by omega
  rw [List.take_of_length_le (by omega)]
  rw [h2, h6]
  rfl
end Go.Proofs.YtajbmdjlfniofaaDoor
/-
  What every law asks first: the example of the document.
-/
namespace Go.Proofs.YtajbmdjlfniofaaDoor
open Go.RowKit Go.Deep PK
attribute [local go_sem] Oper.lit Oper.litS fut_fut fut_drew World.cell?_alloc_some
attribute [local go_sem] fut_base_drew
theorem rd_block {α : Type} {f : α → Value} {w : World} {b : Nat} {cs : Array Value} {t : TypeId} {fr : Nat × Nat} (h : w.heap[b]? = some (.cells cs t fr)) (l : List α) (hl : cs = (l.map f).toArray) : Rd1 w (some ⟨b, 0, none⟩) f l := by
 intro i a hi
 refine ⟨b, 0, rfl, ?_⟩
 rw [Nat.zero_add, cell_of_row w b i cs t fr h, hl]
 simp [hi]
theorem rdS_block {α : Type} {sz : Nat} {f : α → List Value} {w : World} {b : Nat} {cs : Array Value} {t : TypeId} {fr : Nat × Nat} (hf : ∀ a, (f a).length = sz) (h : w.heap[b]? = some (.cells cs t fr)) (l : List α) (hl : cs = (l.flatMap f).toArray) : RdS w (some ⟨b, 0, none⟩) sz f l := by
 intro i a hi
 refine ⟨b, 0, rfl, fun j u hj hu => ?_⟩
 rw [Nat.zero_add, cell_of_row w b _ cs t fr h, hl]
 have := flat_get f sz hf l i a j hi hj
 simpa [this] using hu
theorem RdS.take {α : Type} {sz : Nat} {f : α → List Value} {w : World} {A : Option Addr} {l : List α} (h : RdS w A sz f l) (k : Nat) : RdS w A sz f (l.take k) := by
 intro i a hi
 rw [List.getElem?_take] at hi
 split at hi
 ·
  exact h i a hi
 ·
  cases hi
def leafD (j : Int) : DI := .node j none 0 []
def twoD (b : Nat) (i j : Int) : DI := .node 2 (some ⟨b, 0, none⟩) 2 [leafD i, leafD j]
def wantD (b : Nat) : List DI := [twoD (b + 1 + 1 + 1 + 1 + 1) 0 0, twoD (b + 1 + 1 + 1 + 1 + 1 + 1) 0 1, twoD (b + 1 + 1 + 1 + 1 + 1 + 1 + 1) 1 0, twoD (b + 1 + 1 + 1 + 1 + 1 + 1 + 1 + 1) 1 1]
theorem want_map (b : Nat) : (wantD b).map toDT = W4 := by simp [wantD, twoD, leafD, toDT, toDTs, W4, tA, tB]
theorem leaf_rd (w : World) (j : Int) : RdD w (leafD j) := .mk RdS.nil (by decide) (fun d h => by simp at h)
theorem two_rd {w : World} {b : Nat} {t : TypeId} {fr : Nat × Nat} {i j : Int} (h : w.heap[b]? = some (.cells #[.int .i64 i, .slice none 0 0, .int .i64 j, .slice none 0 0] t fr)) : RdD w (twoD b i j) :=
 .mk (rdS_block (sz := 2) (f := encD) (fun a => rfl) h _ rfl) (show (2 : Nat) ≤ maxLen by decide) (fun d hd => by
  simp only [List.mem_cons, List.not_mem_nil, or_false] at hd
  rcases hd with rfl | rfl <;> exact leaf_rd _ _)
/-- the example, laid -/
def exW (w : World) : World :=
 ((((((((((w.alloc (.cells #[.int .i64 0, .int .i64 0] 3)).alloc (.cells #[.int .i64 0, .slice none 0 0, .int .i64 1, .int .i64 0, .int .i64 0, .int .i64 0, .slice none 0 0, .int .i64 3, .int .i64 0, .int .i64 0, .int .i64 1, .slice (some ⟨w.heap.size, 0, none⟩) 2 2, .int .i64 0, .int .i64 0, .int .i64 0] 49)).alloc (.cells #[.int .i64 2, .slice (some ⟨w.heap.size + 1, 0, none⟩) 3 3] 24)).alloc (.cells #[.int .i64 0, .slice none 0 0] 35)).alloc (.cells #[.int .i64 1, .slice none 0 0] 35)).alloc (.cells #[.int .i64 0, .slice none 0 0, .int .i64 0, .slice none 0 0] 35)).alloc (.cells #[.int .i64 0, .slice none 0 0, .int .i64 1, .slice none 0 0] 35)).alloc (.cells #[.int .i64 1, .slice none 0 0, .int .i64 0, .slice none 0 0] 35)).alloc (.cells #[.int .i64 1, .slice none 0 0, .int .i64 1, .slice none 0 0] 35)).alloc (.cells #[.int .i64 2, .slice (some ⟨w.heap.size + 1 + 1 + 1 + 1 + 1, 0, none⟩) 2 2, .int .i64 2, .slice (some ⟨w.heap.size + 1 + 1 + 1 + 1 + 1 + 1, 0, none⟩) 2 2, .int .i64 2, .slice (some ⟨w.heap.size + 1 + 1 + 1 + 1 + 1 + 1 + 1, 0, none⟩) 2 2, .int .i64 2, .slice (some ⟨w.heap.size + 1 + 1 + 1 + 1 + 1 + 1 + 1 + 1, 0, none⟩) 2 2] 35))
theorem exW_fut (w : World) : Fut w (exW w) := ((((((((((Fut.refl w).alloc _).alloc _).alloc _).alloc _).alloc _).alloc _).alloc _).alloc _).alloc _).alloc _
theorem exW_hyp (w : World) : Blk (exW w) (w.heap.size + 1 + 1) 24 #[.int .i64 2, .slice (some ⟨w.heap.size + 1, 0, none⟩) 3 3] := by unfold exW Blk; (repeat (first | exact heap_new' _ _ _ (by first | rfl | (simp only [World.size_alloc])) | refine (blk_alloc_lt _ _ _ (by first | omega | (simp only [World.size_alloc]; omega))).trans ?_))
theorem exW_R (w : World) : RdE (exW w) (some ⟨w.heap.size + 1, 0, none⟩) (exK (some ⟨w.heap.size, 0, none⟩)) := by
 refine ⟨rdS_block (sz := 5) (f := encE) (t := 49) (fr := (0, 0)) (fun a => rfl) (by unfold exW; (repeat (first | exact heap_new' _ _ _ (by first | rfl | (simp only [World.size_alloc])) | refine (blk_alloc_lt _ _ _ (by first | omega | (simp only [World.size_alloc]; omega))).trans ?_))) _ rfl, fun e he => ?_⟩
 simp only [exK, List.mem_cons, List.not_mem_nil, or_false] at he
 rcases he with rfl | rfl | rfl
 ·
  exact ⟨Rd1.nil, by decide⟩
 ·
  exact ⟨Rd1.nil, by decide⟩
 ·
  exact ⟨rd_block (t := 3) (fr := (0, 0)) (by unfold exW; (repeat (first | exact heap_new' _ _ _ (by first | rfl | (simp only [World.size_alloc])) | refine (blk_alloc_lt _ _ _ (by first | omega | (simp only [World.size_alloc]; omega))).trans ?_))) _ rfl, by show (2 : Nat) ≤ maxLen; decide⟩
theorem exW_W (w : World) : RdS (exW w) (some ⟨w.heap.size + 1 + 1 + 1 + 1 + 1 + 1 + 1 + 1 + 1, 0, none⟩) 2 encD (wantD w.heap.size) ∧ ∀ d ∈ wantD w.heap.size, RdD (exW w) d := by
 refine ⟨rdS_block (sz := 2) (f := encD) (t := 35) (fr := (0, 0)) (fun a => rfl) (by unfold exW; (repeat (first | exact heap_new' _ _ _ (by first | rfl | (simp only [World.size_alloc])) | refine (blk_alloc_lt _ _ _ (by first | omega | (simp only [World.size_alloc]; omega))).trans ?_))) _ rfl, fun d hd => ?_⟩
 simp only [wantD, List.mem_cons, List.not_mem_nil, or_false] at hd
 rcases hd with rfl | rfl | rfl | rfl
 ·
  exact two_rd (t := 35) (fr := (0, 0)) (by unfold exW; (repeat (first | exact heap_new' _ _ _ (by first | rfl | (simp only [World.size_alloc])) | refine (blk_alloc_lt _ _ _ (by first | omega | (simp only [World.size_alloc]; omega))).trans ?_)))
 ·
  exact two_rd (t := 35) (fr := (0, 0)) (by unfold exW; (repeat (first | exact heap_new' _ _ _ (by first | rfl | (simp only [World.size_alloc])) | refine (blk_alloc_lt _ _ _ (by first | omega | (simp only [World.size_alloc]; omega))).trans ?_)))
 ·
  exact two_rd (t := 35) (fr := (0, 0)) (by unfold exW; (repeat (first | exact heap_new' _ _ _ (by first | rfl | (simp only [World.size_alloc])) | refine (blk_alloc_lt _ _ _ (by first | omega | (simp only [World.size_alloc]; omega))).trans ?_)))
 ·
  exact two_rd (t := 35) (fr := (0, 0)) (by unfold exW; (repeat (first | exact heap_new' _ _ _ (by first | rfl | (simp only [World.size_alloc])) | refine (blk_alloc_lt _ _ _ (by first | omega | (simp only [World.size_alloc]; omega))).trans ?_)))
/-- First, at the example -/
def ExF (w' : World) (k : Nat) (oA : Option Addr) (_oc : Nat) (ks : List DI) : Prop := RdS w' oA 2 encD ks ∧ (∀ d ∈ ks, RdD w' d) ∧ ks.map toDT = W4.take k
theorem ExF.fut {w w' : World} {k : Nat} {oA : Option Addr} {oc : Nat} {ks : List DI} (h : ExF w k oA oc ks) (hf : Fut w w') : ExF w' k oA oc ks := ⟨h.1.fut hf, fun d hd => (h.2.1 d hd).fut hf, h.2.2⟩
theorem ex_first_any (b : Nat) (B : Option Addr) (w : World) (hR : RdE w (some ⟨b, 0, none⟩) (exK B)) (k : Nat) (hk : k ≤ 50) :
  Calls Tryd.prog 13 #[.agg #[.int .i64 2, .slice (some ⟨b, 0, none⟩) 3 3], .int .i64 1, .int .i64 (k : Int)] w fun e w' => (∃ oA oc ks, e = .returned (.slice oA (ks : List DI).length oc) ∧ ExF w' k oA oc ks) ∧ Fut w w' := by
 refine (first_any 2 (some ⟨b, 0, none⟩) 3 3 (exK B) w rfl (by decide) (exK_valid B) (by decide) (exK_tl B) exV (ex_sol B) exV_s hR 1 (by decide) (k : Int) (by omega)).mono ?_
 rintro e w' ⟨⟨oA, oc, ks, rfl, h1, h2, h3, h4, h5, -⟩, hf⟩
 refine ⟨⟨oA, oc, ks, rfl, h1, h2, ?_⟩, hf⟩
 rw [exK_P] at h3 h5
 by_cases h0 : k = 0
 ·
  subst h0
  rw [h4 (by omega)]; rfl
 ·
  obtain ⟨h6, h7⟩ := h5 (by omega)
  refine ex_first h3 (by rw [List.length_map]; omega) ?_
  rcases h7 with h7 | h7
  ·
   left; rw [List.length_map]; omega
  ·
   exact .inr h7
theorem ex_some_any (b : Nat) (B : Option Addr) (w : World) (hR : RdE w (some ⟨b, 0, none⟩) (exK B)) :
  Calls Tryd.prog 15 #[.agg #[.int .i64 2, .slice (some ⟨b, 0, none⟩) 3 3], .int .i64 1, .int .i64 3] w fun e w' => (∃ oA oc ks, e = .returned (.tuple #[.slice oA (ks : List DI).length oc, .bool true]) ∧ ExF w' 3 oA oc ks) ∧ Fut w w' := by
 refine (some_any 2 (some ⟨b, 0, none⟩) 3 3 (exK B) w rfl (by decide) (exK_valid B) (by decide) (exK_tl B) exV (ex_sol B) exV_s hR 1 (by decide) 3 (by omega)).mono ?_
 rintro e w' ⟨⟨oA, oc, ks, rfl, h1, h2, h3, h4, h5, -⟩, hf⟩
 refine ⟨⟨oA, oc, ks, rfl, h1, h2, ?_⟩, hf⟩
 rw [exK_P] at h3 h5
 obtain ⟨h6, h7⟩ := h5 (by omega)
 refine ex_first h3 (by rw [List.length_map]; omega) ?_
 rcases h7 with h7 | h7
 ·
  left; rw [List.length_map]; omega
 ·
  exact .inr h7
theorem ex_same_any (b : Nat) (A : Option Addr) (oA : Option Addr) (oc : Nat) (ks : List DI) (w : World) (k m c : Nat) (hk : ExF w k oA oc ks) (hm : m = (W4.take k).length) (hW : RdS w (some ⟨b + 1 + 1 + 1 + 1 + 1 + 1 + 1 + 1 + 1, 0, none⟩) 2 encD (wantD b)) (hD : ∀ d ∈ wantD b, RdD w d) :
  Calls Tryd.prog 12 #[.agg #[.int .i64 2, .slice A 3 3], .slice oA ks.length oc, .slice (some ⟨b + 1 + 1 + 1 + 1 + 1 + 1 + 1 + 1 + 1, 0, none⟩) m c] w fun e w' => e = .returned (.bool true) ∧ Fut w w' := by
 obtain ⟨h1, h2, h3⟩ := hk
 have hl : ((wantD b).take k).length = m := by rw [hm, ← want_map b, ← List.map_take, List.length_map]
 have hm4 : m ≤ 4 := by rw [← hl, List.length_take]; exact Nat.min_le_right _ _
 have hl2 : ks.length ≤ 4 := by
  have := congrArg List.length h3
  rw [List.length_map, ← hm] at this
  omega
 have h9 := same_any 2 A 3 3 oA oc (some ⟨b + 1 + 1 + 1 + 1 + 1 + 1 + 1 + 1 + 1, 0, none⟩) c ks ((wantD b).take k) w (by unfold maxLen; omega) (by unfold maxLen; omega) h1 h2 (hW.take k) (fun d hd => hD d (List.mem_of_mem_take hd))
 rw [sameB_yes (by rw [h3, List.map_take, want_map]), hl] at h9
 exact h9
set_option maxHeartbeats 12800000 in
set_option maxRecDepth 4000 in
theorem awake_any (w : World) : Calls Tryd.prog 11 #[] w fun e w' => e = .returned (.bool true) ∧ Fut w w' := by
 go_enter Tryd.func11, Tryd.ntmps11
 go_wp2_with fail
 obtain ⟨wk, hwk⟩ : ∃ wk, wk = exW w := ⟨_, rfl⟩
 have HF := Lib.hid (show Fut w wk from by rw [hwk]; exact exW_fut w)
 have HBH := Lib.hid (show Blk wk (w.heap.size + 1 + 1) 24 #[.int .i64 2, .slice (some ⟨w.heap.size + 1, 0, none⟩) 3 3] from by rw [hwk]; exact exW_hyp w)
 have HR := Lib.hid (show RdE wk (some ⟨w.heap.size + 1, 0, none⟩) (exK (some ⟨w.heap.size, 0, none⟩)) from by rw [hwk]; exact exW_R w)
 have HW := Lib.hid (show RdS wk (some ⟨w.heap.size + 1 + 1 + 1 + 1 + 1 + 1 + 1 + 1 + 1, 0, none⟩) 2 encD (wantD w.heap.size) ∧ ∀ d ∈ wantD w.heap.size, RdD wk d from by rw [hwk]; exact exW_W w)
 have hsm := ex_some_any _ _ _ (exW_R w)
 refine hsm.mono ?_
 rw [← hwk]
 clear hsm hwk
 rintro e w1 ⟨⟨gA, gc, gs, rfl, hg⟩, hb⟩
 have HG := Lib.hid hg
 have HF1 := Lib.hid (show Fut wk w1 from hb)
 have h0 := cell_fut ((HBH.out.fut HF1.out).cell (i := 0) rfl)
 have h1 := cell_fut ((HBH.out.fut HF1.out).cell (i := 1) rfl)
 have HFS := Lib.hid (fun (k : Nat) (hk : k ≤ 50) w' (hf : Fut w1 w') => ex_first_any _ _ w' ((HR.out.fut HF1.out).fut hf) k hk)
 have HSM := Lib.hid (fun oA oc ks w' k m c (hf : Fut w1 w') (hk : ExF w' k oA oc ks) (hm : m = (W4.take k).length) => ex_same_any w.heap.size (some ⟨w.heap.size + 1, 0, none⟩) oA oc ks w' k m c hk hm ((HW.out.1.fut HF1.out).fut hf) (fun d hd => ((HW.out.2 d hd).fut HF1.out).fut hf))
 clear hg hb
 go_wp2_with fail
 have f0 : Fut w1 w1.drew := (Fut.refl w1).drew
 refine wp_region_M o_emendatelaw31_awake_5 (by kernel_rfl) (by kernel_rfl) (by intro c a d v w h; cases d <;> exact h) ?_; unfold o_emendatelaw31_awake_5
 iterate 3 (refine wpF_h rfl rfl (fun K hK => ?_); go_simp; refine hK _ _ ?_; clear hK K)
 refine wpF_o rfl rfl (fun K hK => ?_)
 go_simp
 go_at_call 13
 refine (HFS.out 9 (by decide) _ f0).mono ?_
 rintro x w2 ⟨⟨oA, oc, ks, rfl, hx⟩, hb⟩
 have f2 : Fut w1 w2 := f0.trans hb
 refine hK _ _ (.inr hb) ?_
 clear hK K hb
 refine wpF_o rfl rfl (fun K hK => ?_)
 go_simp
 go_at_call 12
 refine (HSM.out oA oc ks _ 9 4 4 f2 hx rfl).mono ?_
 rintro x w3 ⟨rfl, hb⟩
 have f3 : Fut w1 w3 := f2.trans hb
 refine hK _ _ (.inr hb) ?_
 clear hK K hb hx
 iterate 5 (refine wpF_h rfl rfl (fun K hK => ?_); go_simp; refine hK _ _ ?_; clear hK K)
 refine wpF_o rfl rfl (fun K hK => ?_)
 go_simp
 go_at_call 13
 refine (HFS.out 2 (by decide) _ f3).mono ?_
 rintro x w4 ⟨⟨oA2, oc2, ks2, rfl, hx⟩, hb⟩
 have f4 : Fut w1 w4 := f3.trans hb
 refine hK _ _ (.inr hb) ?_
 clear hK K hb
 refine wpF_o rfl rfl (fun K hK => ?_)
 go_simp
 go_at_call 12
 refine (HSM.out oA2 oc2 ks2 _ 2 2 4 f4 hx rfl).mono ?_
 rintro x w5 ⟨rfl, hb⟩
 have f5 : Fut w1 w5 := f4.trans hb
 refine hK _ _ (.inr hb) ?_
 clear hK K hb hx
 iterate 9 (refine wpF_h rfl rfl (fun K hK => ?_); go_simp; refine hK _ _ ?_; clear hK K)
 refine wpF_o rfl rfl (fun K hK => ?_)
 go_simp
 go_at_call 12
 refine (HSM.out gA gc gs _ 3 3 4 f5 (HG.out.fut f5) rfl).mono ?_
 rintro x w6 ⟨rfl, hb⟩
 have f6 : Fut w1 w6 := f5.trans hb
 refine hK _ _ (.inr hb) ?_
 clear hK K hb
 iterate 3 (refine wpF_h rfl rfl (fun K hK => ?_); go_simp; refine hK _ _ ?_; clear hK K)
 refine wpF_o rfl rfl (fun K hK => ?_)
 go_simp
 go_at_call 13
 refine (HFS.out 0 (by decide) _ f6).mono ?_
 rintro x w7 ⟨⟨oA3, oc3, ks3, rfl, hx⟩, hb⟩
 have f7 : Fut w1 w7 := f6.trans hb
 have hk3 : ks3 = [] := by
  have := congrArg List.length hx.2.2
  rw [List.length_map] at this
  exact List.length_eq_zero_iff.1 this
 subst hk3
 refine hK _ _ (.inr hb) ?_
 clear hK K hb hx
 iterate 4 (refine wpF_h rfl rfl (fun K hK => ?_); go_simp; refine hK _ _ ?_; clear hK K)
 refine wpF_nil ?_
 go_wp2_with fail
 go_returns
 exact ⟨rfl, HF.out.trans (HF1.out.trans f7)⟩
end Go.Proofs.YtajbmdjlfniofaaDoor
