/-
  The law of Of, walked: it returns true and turns nothing that was there.
-/
import Derived.Test.YtagmpbgidooibaaC23
import Derived.Test.YtagmpbgidooibaaC16
import Derived.Test.YtagmpbgidooibaaCp
namespace Go.Proofs.Ytagmpbgidooibaa
open Go.RowKit Go.Deep
attribute [local go_sem] Oper.lit Oper.litS fut_fut fut_drew World.cell?_alloc_some
attribute [local go_sem] fut_base_drew
theorem fewZ_len {ks : List Int} {xs : List XX} (h : fewZ ks xs = true) : ks.length ≤ 70 ∧ xs.length ≤ 70 := by
  simp only [fewZ, Bool.and_eq_true, decide_eq_true_eq] at h
  exact h.1
theorem fewP_len {ins del : List Int} {rep : List RR} (h : fewP ins del rep = true) : ins.length ≤ 20 ∧ del.length ≤ 20 ∧ rep.length ≤ 20 := by
  simp only [fewP, Bool.and_eq_true, decide_eq_true_eq] at h
  exact ⟨h.1.1.1, h.1.1.2, h.1.2⟩
set_option maxHeartbeats 6400000 in
set_option maxRecDepth 4000 in
theorem law_cof (Z : Option Addr) (n zc : Nat) (X : Option Addr) (m xc : Nat) (ks : List Int) (xs : List XX) (A1 : Option Addr) (n1 c1 : Nat) (A2 : Option Addr) (n2 c2 : Nat) (A3 : Option Addr) (n3 c3 : Nat) (s u : Int) (ins del : List Int) (rep : List RR) (w : World)
    (hkl : ks.length = n) (hn : n ≤ maxLen) (hxl : xs.length = m) (hm : m ≤ maxLen) (h1 : ins.length = n1) (h2 : del.length = n2) (h3 : rep.length = n3) (b1 : n1 ≤ maxLen) (b2 : n2 ≤ maxLen) (b3 : n3 ≤ maxLen) (y1 : A1 = none → n1 = 0 ∧ c1 = 0)
    (hZ : Rd1 w Z (.int .i64 ·) ks) (hX : RdX w X xs) (r1 : Rd1 w A1 (.int .i64 ·) ins) (r2 : Rd1 w A2 (.int .i64 ·) del) (r3 : RdR w A3 rep) :
    Calls Try.prog 4 #[tv Z n zc X m xc, pv A1 n1 c1 A2 n2 c2 A3 n3 c3 s u] w fun e w' => e = .returned (.bool true) ∧ Below w.heap.size w w' := by
  have HW := Lib.hid (show Fut w ((w.alloc (.cells #[.slice Z n zc, .slice X m xc] 31)).alloc (.cells #[.slice A1 n1 c1, .slice A2 n2 c2, .slice A3 n3 c3, .int .i64 s, .int .i64 u] 34)) from ((Fut.refl w).alloc _).alloc _)
  have q0 : ∀ dd os, (fut ((w.alloc (.cells #[.slice Z n zc, .slice X m xc] 31)).alloc (.cells #[.slice A1 n1 c1, .slice A2 n2 c2, .slice A3 n3 c3, .int .i64 s, .int .i64 u] 34)) dd os).cell? ⟨w.heap.size, 0, none⟩ = some (.slice Z n zc) := cell_fut (by (repeat (first | exact (cell_al_new _ _ _ _ _ _ (by first | rfl | (simp only [World.size_alloc]))).trans rfl | refine (cell_al_old _ _ _ (by first | omega | (simp only [World.size_alloc]; omega))).trans ?_)))
  have q1 : ∀ dd os, (fut ((w.alloc (.cells #[.slice Z n zc, .slice X m xc] 31)).alloc (.cells #[.slice A1 n1 c1, .slice A2 n2 c2, .slice A3 n3 c3, .int .i64 s, .int .i64 u] 34)) dd os).cell? ⟨w.heap.size, 1, none⟩ = some (.slice X m xc) := cell_fut (by (repeat (first | exact (cell_al_new _ _ _ _ _ _ (by first | rfl | (simp only [World.size_alloc]))).trans rfl | refine (cell_al_old _ _ _ (by first | omega | (simp only [World.size_alloc]; omega))).trans ?_)))
  have q2 : ∀ dd os, (fut ((w.alloc (.cells #[.slice Z n zc, .slice X m xc] 31)).alloc (.cells #[.slice A1 n1 c1, .slice A2 n2 c2, .slice A3 n3 c3, .int .i64 s, .int .i64 u] 34)) dd os).cell? ⟨w.heap.size + 1, 0, none⟩ = some (.slice A1 n1 c1) := cell_fut (by (repeat (first | exact (cell_al_new _ _ _ _ _ _ (by first | rfl | (simp only [World.size_alloc]))).trans rfl | refine (cell_al_old _ _ _ (by first | omega | (simp only [World.size_alloc]; omega))).trans ?_)))
  have q3 : ∀ dd os, (fut ((w.alloc (.cells #[.slice Z n zc, .slice X m xc] 31)).alloc (.cells #[.slice A1 n1 c1, .slice A2 n2 c2, .slice A3 n3 c3, .int .i64 s, .int .i64 u] 34)) dd os).cell? ⟨w.heap.size + 1, 1, none⟩ = some (.slice A2 n2 c2) := cell_fut (by (repeat (first | exact (cell_al_new _ _ _ _ _ _ (by first | rfl | (simp only [World.size_alloc]))).trans rfl | refine (cell_al_old _ _ _ (by first | omega | (simp only [World.size_alloc]; omega))).trans ?_)))
  have q4 : ∀ dd os, (fut ((w.alloc (.cells #[.slice Z n zc, .slice X m xc] 31)).alloc (.cells #[.slice A1 n1 c1, .slice A2 n2 c2, .slice A3 n3 c3, .int .i64 s, .int .i64 u] 34)) dd os).cell? ⟨w.heap.size + 1, 2, none⟩ = some (.slice A3 n3 c3) := cell_fut (by (repeat (first | exact (cell_al_new _ _ _ _ _ _ (by first | rfl | (simp only [World.size_alloc]))).trans rfl | refine (cell_al_old _ _ _ (by first | omega | (simp only [World.size_alloc]; omega))).trans ?_)))
  have q5 : ∀ dd os, (fut ((w.alloc (.cells #[.slice Z n zc, .slice X m xc] 31)).alloc (.cells #[.slice A1 n1 c1, .slice A2 n2 c2, .slice A3 n3 c3, .int .i64 s, .int .i64 u] 34)) dd os).cell? ⟨w.heap.size + 1, 3, none⟩ = some (.int .i64 s) := cell_fut (by (repeat (first | exact (cell_al_new _ _ _ _ _ _ (by first | rfl | (simp only [World.size_alloc]))).trans rfl | refine (cell_al_old _ _ _ (by first | omega | (simp only [World.size_alloc]; omega))).trans ?_)))
  have q6 : ∀ dd os, (fut ((w.alloc (.cells #[.slice Z n zc, .slice X m xc] 31)).alloc (.cells #[.slice A1 n1 c1, .slice A2 n2 c2, .slice A3 n3 c3, .int .i64 s, .int .i64 u] 34)) dd os).cell? ⟨w.heap.size + 1, 4, none⟩ = some (.int .i64 u) := cell_fut (by (repeat (first | exact (cell_al_new _ _ _ _ _ _ (by first | rfl | (simp only [World.size_alloc]))).trans rfl | refine (cell_al_old _ _ _ (by first | omega | (simp only [World.size_alloc]; omega))).trans ?_)))
  have HFZ := Lib.hid (fun w' h => fewZ_any Z n zc ks X m xc xs w' hkl hn hxl hm h)
  have HFP := Lib.hid (fun w' h => fewP_any A1 n1 c1 A2 n2 c2 A3 n3 c3 s u ins del rep w' h1 h2 h3 b1 b2 b3 h)
  have HZ := Lib.hid (hZ.fut HW.out)
  have HX := Lib.hid (hX.fut HW.out)
  have R1 := Lib.hid (r1.fut HW.out)
  have R2 := Lib.hid (r2.fut HW.out)
  have R3 := Lib.hid (r3.fut HW.out)
  have HLS := Lib.hid (And.intro hkl (And.intro hxl (And.intro h1 (And.intro h2 h3))))
  have HBS := Lib.hid (And.intro b2 (And.intro b3 y1))
  clear hkl hn hxl hm h1 h2 h3 b1 b2 b3 y1 hZ hX r1 r2 r3
  have e37 : ∀ z : Int, (z == z) = true := fun z => by simp
  by_cases hz : fewZ ks xs = true
  · rw [hz] at HFZ
    by_cases hp : fewP ins del rep = true
    · rw [hp] at HFP
      obtain ⟨hzn, hzm⟩ := fewZ_len hz
      obtain ⟨hp1, hp2, hp3⟩ := fewP_len hp
      have HLS2 := HLS.out
      rw [HLS2.1] at hzn
      rw [HLS2.2.1] at hzm
      rw [HLS2.2.2.1] at hp1
      rw [HLS2.2.2.2.1] at hp2
      rw [HLS2.2.2.2.2] at hp3
      clear hz hp HLS2
      have HOF := Lib.hid (fun w' a1 a2 a3 a4 a5 => of_any Z n zc ks X m xc xs A1 n1 c1 A2 n2 c2 A3 n3 c3 s u ins del rep w' HLS.out.1 (by omega) HLS.out.2.1 (by unfold maxLen; omega) HLS.out.2.2.1 HLS.out.2.2.2.1 HLS.out.2.2.2.2 (by omega) HBS.out.1 HBS.out.2.1 a1 a2 a3 a4 a5)
      have HRF := Lib.hid (fun w' a1 a2 a3 a4 a5 => rOf_any Z n zc ks X m xc xs A1 n1 c1 A2 n2 c2 A3 n3 c3 s u ins del rep w' HLS.out.1 (by omega) HLS.out.2.1 (by unfold maxLen; omega) HLS.out.2.2.1 HLS.out.2.2.2.1 HLS.out.2.2.2.2 (by omega) HBS.out.1 HBS.out.2.1 HBS.out.2.2 a1 a2 a3 a4 a5)
      by_cases hE : ofE ks xs ins del rep s u = 0
      · have HE := Lib.hid hE
        clear hE
        go_enter Try.func4, Try.ntmps4
        go_wp2_with (first | (go_at_call 13; refine (HFZ.out _ HX.out).mono ?_; rintro e w1 ⟨rfl, hb1⟩; obtain ⟨dd, oo, rfl⟩ := fut_of hb1; clear hb1) | (go_at_call 14; refine (HFP.out _ (R3.out.fut (Fut.fut _ _ _))).mono ?_; rintro e w1 ⟨rfl, hb1⟩; obtain ⟨d2, o2, rfl⟩ := fut_of (Fut.trans (Fut.fut _ _ _) hb1); clear hb1))
        refine (HOF.out _ (HZ.out.fut (Fut.fut _ _ _)) (HX.out.fut (Fut.fut _ _ _)) (R1.out.fut (Fut.fut _ _ _)) (R2.out.fut (Fut.fut _ _ _)) (R3.out.fut (Fut.fut _ _ _))).mono ?_
        rintro e w3 ⟨hr, hb3⟩
        obtain ⟨A, c, cols, rfl, hkey, hrd⟩ := hr.2 HE.out
        have HKEY := Lib.hid hkey
        have HRD := Lib.hid hrd
        obtain ⟨d3, o3, rfl⟩ := fut_of (show Fut ((w.alloc (.cells #[.slice Z n zc, .slice X m xc] 31)).alloc (.cells #[.slice A1 n1 c1, .slice A2 n2 c2, .slice A3 n3 c3, .int .i64 s, .int .i64 u] 34)) w3 from (Fut.fut _ _ _).trans hb3)
        have HA3 := Lib.hid (show Fut ((w.alloc (.cells #[.slice Z n zc, .slice X m xc] 31)).alloc (.cells #[.slice A1 n1 c1, .slice A2 n2 c2, .slice A3 n3 c3, .int .i64 s, .int .i64 u] 34)) ((fut ((w.alloc (.cells #[.slice Z n zc, .slice X m xc] 31)).alloc (.cells #[.slice A1 n1 c1, .slice A2 n2 c2, .slice A3 n3 c3, .int .i64 s, .int .i64 u] 34)) d3 o3).alloc (.cells #[.slice A n c, .slice A1 n1 c1, .int .i64 s] 25)) from (Fut.fut _ _ _).alloc _)
        have HRA := Lib.hid (HRD.out.fut ((Fut.refl (fut ((w.alloc (.cells #[.slice Z n zc, .slice X m xc] 31)).alloc (.cells #[.slice A1 n1 c1, .slice A2 n2 c2, .slice A3 n3 c3, .int .i64 s, .int .i64 u] 34)) d3 o3)).alloc (.cells #[.slice A n c, .slice A1 n1 c1, .int .i64 s] 25)))
        have HIA := Lib.hid (show CelI ((fut ((w.alloc (.cells #[.slice Z n zc, .slice X m xc] 31)).alloc (.cells #[.slice A1 n1 c1, .slice A2 n2 c2, .slice A3 n3 c3, .int .i64 s, .int .i64 u] 34)) d3 o3).alloc (.cells #[.slice A n c, .slice A1 n1 c1, .int .i64 s] 25)) (fut ((w.alloc (.cells #[.slice Z n zc, .slice X m xc] 31)).alloc (.cells #[.slice A1 n1 c1, .slice A2 n2 c2, .slice A3 n3 c3, .int .i64 s, .int .i64 u] 34)) d3 o3).heap.size (.slice A n c) (.slice A1 n1 c1) (.int .i64 s) from heap_new' _ _ _ rfl)
        clear hr hkey hrd hb3 HRD
        go_wp2_with fail
        refine (HRF.out _ (HZ.out.fut HA3.out) (HX.out.fut HA3.out) (R1.out.fut HA3.out) (R2.out.fut HA3.out) (R3.out.fut HA3.out)).mono ?_
        rintro e w6 ⟨hr, hb6⟩
        obtain ⟨RA, Rc, RB, Rd, cols2, rfl, hkey2, hrd2, hri2⟩ := hr.2 HE.out
        have HA6 := Lib.hid (show Fut ((w.alloc (.cells #[.slice Z n zc, .slice X m xc] 31)).alloc (.cells #[.slice A1 n1 c1, .slice A2 n2 c2, .slice A3 n3 c3, .int .i64 s, .int .i64 u] 34)) (w6.alloc (.cells #[.slice RA n Rc, .slice RB n1 Rd, .int .i64 s] 25)) from (HA3.out.trans hb6).alloc _)
        have f6 : Fut ((fut ((w.alloc (.cells #[.slice Z n zc, .slice X m xc] 31)).alloc (.cells #[.slice A1 n1 c1, .slice A2 n2 c2, .slice A3 n3 c3, .int .i64 s, .int .i64 u] 34)) d3 o3).alloc (.cells #[.slice A n c, .slice A1 n1 c1, .int .i64 s] 25)) (w6.alloc (.cells #[.slice RA n Rc, .slice RB n1 Rd, .int .i64 s] 25)) := Fut.trans hb6 ((Fut.refl w6).alloc _)
        have HIB := Lib.hid (show CelI (w6.alloc (.cells #[.slice RA n Rc, .slice RB n1 Rd, .int .i64 s] 25)) w6.heap.size (.slice RA n Rc) (.slice RB n1 Rd) (.int .i64 s) from heap_new' _ _ _ rfl)
        have HIA6 := Lib.hid (HIA.out.fut f6)
        have HRA6 := Lib.hid (HRA.out.fut f6)
        have HK2 := Lib.hid hkey2
        have HRB6 := Lib.hid (hrd2.fut ((Fut.refl w6).alloc (.cells #[.slice RA n Rc, .slice RB n1 Rd, .int .i64 s] 25)))
        have HRI6 := Lib.hid (hri2.fut ((Fut.refl w6).alloc (.cells #[.slice RA n Rc, .slice RB n1 Rd, .int .i64 s] 25)))
        have HVAL := Lib.hid (of_valid HE.out (by rw [HLS.out.2.2.1]; exact HKEY.out))
        clear hr hb6 f6 hkey2 hrd2 hri2 HIA HRA
        go_wp2_with fail
        generalize w6.alloc (.cells #[.slice RA n Rc, .slice RB n1 Rd, .int .i64 s] 25) = w7 at *
        generalize hwn : (fut ((w.alloc (.cells #[.slice Z n zc, .slice X m xc] 31)).alloc (.cells #[.slice A1 n1 c1, .slice A2 n2 c2, .slice A3 n3 c3, .int .i64 s, .int .i64 u] 34)) d3 o3).heap.size = wn at *
        clear hwn
        refine (awake_any w7).mono ?_
        rintro e w8 ⟨rfl, hb8⟩
        have f8 : Fut w7 w8 := hb8
        have i0 := (HIA6.out.fut f8).c0
        have i1 := (HIA6.out.fut f8).c1
        have i2 := (HIA6.out.fut f8).c2
        have j0 := (HIB.out.fut f8).c0
        have j1 := (HIB.out.fut f8).c1
        have j2 := (HIB.out.fut f8).c2
        clear hb8
        go_wp2_with fail
        refine (same_any A n c A1 n1 c1 s RA Rc RB Rd cols cols2 ins w8 (by have h9 := congrArg List.length HKEY.out; simp only [ofK, List.length_map, List.length_range] at h9; rw [h9]; exact HLS.out.1) (by unfold maxLen; omega) HLS.out.2.2.1 (by unfold maxLen; omega) (HKEY.out.trans HK2.out.symm) (HRA6.out.fut f8) (HRB6.out.fut f8) ((R1.out.fut HA6.out).fut f8) (HRI6.out.fut f8)).mono ?_
        rintro e w9 ⟨rfl, hb9⟩
        have f9 : Fut w7 w9 := f8.trans hb9
        have i0 := (HIA6.out.fut f9).c0
        have i1 := (HIA6.out.fut f9).c1
        have i2 := (HIA6.out.fut f9).c2
        obtain ⟨d9, o9, rfl⟩ := fut_of (show Fut ((w.alloc (.cells #[.slice Z n zc, .slice X m xc] 31)).alloc (.cells #[.slice A1 n1 c1, .slice A2 n2 c2, .slice A3 n3 c3, .int .i64 s, .int .i64 u] 34)) w9 from HA6.out.trans f9)
        clear hb9 j0 j1 j2 f8
        go_wp2_with fail
        refine (valid_any (n1 : Int) A n c cols A1 n1 c1 ins s _ (by have h9 := congrArg List.length HKEY.out; simp only [ofK, List.length_map, List.length_range] at h9; rw [h9]; exact HLS.out.1) (by unfold maxLen; omega) (HRA6.out.fut f9) HLS.out.2.2.1 (by unfold maxLen; omega) ((R1.out.fut HA6.out).fut f9)).mono ?_
        rintro e w10 ⟨rfl, hb10⟩
        have hvv := HVAL.out
        rw [HLS.out.2.2.1] at hvv
        rw [hvv]
        have HB10 := Lib.hid (show Fut w w10 from (HW.out.trans (HA6.out.trans f9)).trans hb10)
        clear hb10 hvv i0 i1 i2 f9
        go_wp2_with fail
        go_ret
        exact ⟨rfl, HB10.out⟩
      · have HE := Lib.hid hE
        have hEn : (ofE ks xs ins del rep s u = 0) = False := eq_false hE
        go_enter Try.func4, Try.ntmps4
        go_wp2_with (first | (go_at_call 13; refine (HFZ.out _ HX.out).mono ?_; rintro e w1 ⟨rfl, hb1⟩; obtain ⟨dd, oo, rfl⟩ := fut_of hb1; clear hb1) | (go_at_call 14; refine (HFP.out _ (R3.out.fut (Fut.fut _ _ _))).mono ?_; rintro e w1 ⟨rfl, hb1⟩; obtain ⟨d2, o2, rfl⟩ := fut_of (Fut.trans (Fut.fut _ _ _) hb1); clear hb1))
        refine (HOF.out _ (HZ.out.fut (Fut.fut _ _ _)) (HX.out.fut (Fut.fut _ _ _)) (R1.out.fut (Fut.fut _ _ _)) (R2.out.fut (Fut.fut _ _ _)) (R3.out.fut (Fut.fut _ _ _))).mono ?_
        rintro e w3 ⟨hr, hb3⟩
        obtain rfl := hr.1 HE.out
        obtain ⟨d3, o3, rfl⟩ := fut_of (show Fut ((w.alloc (.cells #[.slice Z n zc, .slice X m xc] 31)).alloc (.cells #[.slice A1 n1 c1, .slice A2 n2 c2, .slice A3 n3 c3, .int .i64 s, .int .i64 u] 34)) w3 from (Fut.fut _ _ _).trans hb3)
        clear hr hb3
        go_wp2_with fail
        refine (HRF.out _ (HZ.out.fut ((Fut.fut _ _ _).alloc _)) (HX.out.fut ((Fut.fut _ _ _).alloc _)) (R1.out.fut ((Fut.fut _ _ _).alloc _)) (R2.out.fut ((Fut.fut _ _ _).alloc _)) (R3.out.fut ((Fut.fut _ _ _).alloc _))).mono ?_
        rintro e w6 ⟨hr, hb6⟩
        obtain rfl := hr.1 HE.out
        obtain ⟨m1, m2, m3⟩ := cmpF_no HE.out
        have HIA := Lib.hid (show CelI ((fut ((w.alloc (.cells #[.slice Z n zc, .slice X m xc] 31)).alloc (.cells #[.slice A1 n1 c1, .slice A2 n2 c2, .slice A3 n3 c3, .int .i64 s, .int .i64 u] 34)) d3 o3).alloc (.cells #[.slice none 0 0, .slice none 0 0, .int .i64 0] 25)) (fut ((w.alloc (.cells #[.slice Z n zc, .slice X m xc] 31)).alloc (.cells #[.slice A1 n1 c1, .slice A2 n2 c2, .slice A3 n3 c3, .int .i64 s, .int .i64 u] 34)) d3 o3).heap.size (.slice none 0 0) (.slice none 0 0) (.int .i64 0) from heap_new' _ _ _ rfl)
        have f6 : Fut ((fut ((w.alloc (.cells #[.slice Z n zc, .slice X m xc] 31)).alloc (.cells #[.slice A1 n1 c1, .slice A2 n2 c2, .slice A3 n3 c3, .int .i64 s, .int .i64 u] 34)) d3 o3).alloc (.cells #[.slice none 0 0, .slice none 0 0, .int .i64 0] 25)) (w6.alloc (.cells #[.slice none 0 0, .slice none 0 0, .int .i64 0] 25)) := Fut.trans hb6 ((Fut.refl w6).alloc _)
        have HA6 := Lib.hid (show Fut ((w.alloc (.cells #[.slice Z n zc, .slice X m xc] 31)).alloc (.cells #[.slice A1 n1 c1, .slice A2 n2 c2, .slice A3 n3 c3, .int .i64 s, .int .i64 u] 34)) (w6.alloc (.cells #[.slice none 0 0, .slice none 0 0, .int .i64 0] 25)) from ((Fut.fut _ _ _).alloc _).trans f6)
        have HIB := Lib.hid (show CelI (w6.alloc (.cells #[.slice none 0 0, .slice none 0 0, .int .i64 0] 25)) w6.heap.size (.slice none 0 0) (.slice none 0 0) (.int .i64 0) from heap_new' _ _ _ rfl)
        have HIA6 := Lib.hid (HIA.out.fut f6)
        clear hr hb6 f6 HIA
        go_wp2_with fail
        generalize w6.alloc (.cells #[.slice none 0 0, .slice none 0 0, .int .i64 0] 25) = w7 at *
        generalize hwn : (fut ((w.alloc (.cells #[.slice Z n zc, .slice X m xc] 31)).alloc (.cells #[.slice A1 n1 c1, .slice A2 n2 c2, .slice A3 n3 c3, .int .i64 s, .int .i64 u] 34)) d3 o3).heap.size = wn at *
        clear hwn
        refine (awake_any w7).mono ?_
        rintro e w8 ⟨rfl, hb8⟩
        have f8 : Fut w7 w8 := hb8
        have i0 := (HIA6.out.fut f8).c0
        have i1 := (HIA6.out.fut f8).c1
        have i2 := (HIA6.out.fut f8).c2
        have j0 := (HIB.out.fut f8).c0
        have j1 := (HIB.out.fut f8).c1
        have j2 := (HIB.out.fut f8).c2
        clear hb8
        go_wp2_with fail
        refine (same_any none 0 0 none 0 0 0 none 0 none 0 [] [] [] w8 rfl (by decide) rfl (by decide) rfl ⟨RdS.nil, fun _ h => by simp at h⟩ ⟨RdS.nil, fun _ h => by simp at h⟩ Rd1.nil Rd1.nil).mono ?_
        rintro e w9 ⟨rfl, hb9⟩
        have HB9 := Lib.hid (show Fut w w9 from (HW.out.trans HA6.out).trans (f8.trans hb9))
        clear hb9 f8
        go_wp2_with fail
        go_ret
        exact ⟨rfl, HB9.out⟩
    · rw [bnot hp] at HFP
      go_enter Try.func4, Try.ntmps4
      go_wp2_with (first | (go_at_call 13; refine (HFZ.out _ HX.out).mono ?_; rintro e w1 ⟨rfl, hb1⟩; obtain ⟨dd, oo, rfl⟩ := fut_of hb1; clear hb1) | (go_at_call 14; refine (HFP.out _ (R3.out.fut (Fut.fut _ _ _))).mono ?_; rintro e w1 ⟨rfl, hb1⟩; obtain ⟨d2, o2, rfl⟩ := fut_of (Fut.trans (Fut.fut _ _ _) hb1); clear hb1) | (go_at_call 10; refine (awake_any _).mono ?_; rintro e w1 ⟨rfl, hb1⟩; have HB := Lib.hid hb1; clear hb1))
      go_ret
      exact ⟨rfl, HW.out.trans ((Fut.fut _ _ _).trans HB.out)⟩
  · rw [bnot hz] at HFZ
    go_enter Try.func4, Try.ntmps4
    go_wp2_with (first | (go_at_call 13; refine (HFZ.out _ HX.out).mono ?_; rintro e w1 ⟨rfl, hb1⟩; obtain ⟨dd, oo, rfl⟩ := fut_of hb1; clear hb1) | (go_at_call 10; refine (awake_any _).mono ?_; rintro e w1 ⟨rfl, hb1⟩; have HB := Lib.hid hb1; clear hb1))
    go_ret
    exact ⟨rfl, HW.out.trans ((Fut.fut _ _ _).trans HB.out)⟩
end Go.Proofs.Ytagmpbgidooibaa
