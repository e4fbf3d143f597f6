/-
  The input of a token sequence, as the program has it.
-/
import Derived.Test.YtagmpbgidooibaaC14
namespace Go.Proofs.Ytagmpbgidooibaa
open Go.RowKit Go.Deep
attribute [local go_sem] Oper.lit Oper.litS fut_fut fut_drew World.cell?_alloc_some
theorem ofE_bad1 {ks : List Int} {cs : List XX} {ins del : List Int} {rep : List RR} {s u : Int} (h : ¬ (pricesB ins del rep s u = true ∧ (cs.length = 0 ∨ cs.length = ks.length))) : ofE ks cs ins del rep s u = 1 := by
  unfold ofE
  rw [if_neg]
  intro h1
  simp only [Bool.and_eq_true, lenB, Bool.or_eq_true, decide_eq_true_eq] at h1
  exact h h1.1
theorem ofE_bad2 {ks : List Int} {cs : List XX} {ins del : List Int} {rep : List RR} {s u : Int} {i : Nat} (hi : i < ks.length) (h : okT ins.length (gi ks i) (cf cs i) = false) : ofE ks cs ins del rep s u = 1 := by
  unfold ofE
  rw [if_neg]
  intro h1
  simp only [Bool.and_eq_true] at h1
  have := allB_get h1.2 i hi
  rw [h] at this
  cases this
theorem ofE_good {ks : List Int} {cs : List XX} {ins del : List Int} {rep : List RR} {s u : Int} (h : pricesB ins del rep s u = true) (h2 : cs.length = 0 ∨ cs.length = ks.length) (h3 : ∀ i, i < ks.length → okT ins.length (gi ks i) (cf cs i) = true) : ofE ks cs ins del rep s u = if 60 < ks.length then 11 else 0 := by
  unfold ofE
  rw [if_pos]
  simp only [Bool.and_eq_true, h, allB_true h3, lenB, Bool.or_eq_true, decide_eq_true_eq]
  exact ⟨⟨trivial, h2⟩, trivial⟩
theorem column_any2 (kd : Int) (X : Option Addr) (xn xc : Nat) (xs : List (Int × Int)) (A1 : Option Addr) (n1 c1 : Nat) (A2 : Option Addr) (n2 c2 : Nat) (A3 : Option Addr) (n3 c3 : Nat) (s u : Int) (del : List Int) (rep : List RR) (w : World) (e2 : n2 = n1) (e3 : n3 = n1)
    (hk1 : -1 ≤ kd) (hk2 : kd < n1) (hn : n1 ≤ 1000) (h2 : del.length = n1) (h3 : rep.length = n1) (hrows : ∀ r ∈ rep, r.l.length = n1 ∧ ∀ x ∈ r.l, -1 ≤ x) (hx : ∀ p ∈ xs, 0 ≤ p.1 ∧ p.1 < n1 ∧ 1 ≤ p.2) (hxl : xs.length = xn) (hxn : xn ≤ maxLen) (hX : RdS w X 2 encP xs) (r2 : Rd1 w A2 (.int .i64 ·) del) (r3 : RdR w A3 rep) :
    Calls Try.prog 29 #[.int .i64 kd, .slice X xn xc, pv A1 n1 c1 A2 n2 c2 A3 n3 c3 s u] w fun e w' => (∃ A c, e = .returned (.agg #[.int .i64 kd, .slice A n1 c, .int .i64 (delF kd del u)]) ∧ Rd1 w' A (.int .i64 ·) ((List.range n1).map (rowF kd rep xs)) ∧ ∀ b o q, A = some ⟨b, o, q⟩ → w.heap.size ≤ b ∧ b < w'.heap.size) ∧ Below w.heap.size w w' := by
  subst e2 e3
  exact column_any kd X xn xc xs A1 _ c1 A2 c2 A3 c3 s u del rep w hk1 hk2 hn h2 h3 hrows hx hxl hxn hX r2 r3
/-- what Of returns -/
def OfR (w' : World) (e : Ending) (A1 : Option Addr) (n1 c1 : Nat) (s : Int) (n : Nat) (E : Int) (K : List Key) : Prop :=
  (E ≠ 0 → e = .returned (.tuple #[iv none 0 0 none 0 0 0, .int .i64 E])) ∧
  (E = 0 → ∃ A c cols, e = .returned (.tuple #[iv A n c A1 n1 c1 s, .int .i64 0]) ∧ cols.map key = K ∧ RdC w' A cols)
theorem of_res : Try.f15.results = #[.cell 6 25, .tmp 7] := by kernel_rfl
/-- what Of returns, and that it lies in blocks from lo on -/
def OfQ (w' : World) (e : Ending) (A1 : Option Addr) (n1 c1 : Nat) (s : Int) (n : Nat) (E : Int) (K : List Key) (lo : Nat) : Prop :=
  (E ≠ 0 → e = .returned (.tuple #[iv none 0 0 none 0 0 0, .int .i64 E])) ∧
  (E = 0 → ∃ A c cols, e = .returned (.tuple #[iv A n c A1 n1 c1 s, .int .i64 0]) ∧ cols.map key = K ∧ RdC w' A cols ∧ (∀ b o q, A = some ⟨b, o, q⟩ → lo ≤ b) ∧ (∀ x ∈ cols, ∀ b o q, x.A = some ⟨b, o, q⟩ → lo ≤ b) ∧ ((n = 0 ∧ c = 0) ∨ ∃ b o, A = some ⟨b, o, none⟩) ∧ n ≤ c ∧ c ≤ maxLen)
set_option maxHeartbeats 12800000 in
set_option maxRecDepth 4000 in
theorem of_anyq (Z : Option Addr) (n zc : Nat) (ks : List Int) (X : Option Addr) (m xc : Nat) (cs : List XX) (A1 : Option Addr) (n1 c1 : Nat) (A2 : Option Addr) (n2 c2 : Nat) (A3 : Option Addr) (n3 c3 : Nat) (s u : Int) (ins del : List Int) (rep : List RR) (w : World)
    (hkl : ks.length = n) (hn : n ≤ 100000) (hcl : cs.length = m) (hm : m ≤ maxLen) (h1 : ins.length = n1) (h2 : del.length = n2) (h3 : rep.length = n3) (b1 : n1 ≤ 1000) (b2 : n2 ≤ maxLen) (b3 : n3 ≤ maxLen)
    (hZ : Rd1 w Z (.int .i64 ·) ks) (hX : RdX w X cs) (r1 : Rd1 w A1 (.int .i64 ·) ins) (r2 : Rd1 w A2 (.int .i64 ·) del) (r3 : RdR w A3 rep) :
    Calls Try.prog 15 #[.slice Z n zc, .slice X m xc, pv A1 n1 c1 A2 n2 c2 A3 n3 c3 s u] w fun e w' => OfQ w' e A1 n1 c1 s n (ofE ks cs ins del rep s u) (ofK ks cs del rep u n1) w.heap.size ∧ Below w.heap.size w w' := by
  have k1 : n1 ≤ 9223372036854775807 := by omega
  have k2 : m ≤ 9223372036854775807 := hm
  have k3 : n ≤ 9223372036854775807 := by omega
  have HM := Lib.hid hm
  have HB2 := Lib.hid b2
  have HB3 := Lib.hid b3
  have HKL := Lib.hid hkl
  have HCL := Lib.hid hcl
  have L1 := Lib.hid h1
  have L2 := Lib.hid h2
  have L3 := Lib.hid h3
  have HZ0 := Lib.hid hZ
  have HX0 := Lib.hid hX
  have R1 := Lib.hid r1
  have R2 := Lib.hid r2
  have R3 := Lib.hid r3
  obtain ⟨ci, ca, cz0, cz1, cz2⟩ := info_parts info_col
  clear hm b2 b3 hkl hcl h1 h2 h3 hZ hX r1 r2 r3
  have HWW := Lib.hid (show Fut w (((w.alloc (.cells #[.slice X m xc] 29)).alloc (.cells #[.slice A1 n1 c1, .slice A2 n2 c2, .slice A3 n3 c3, .int .i64 s, .int .i64 u] 34)).alloc (.cells #[.slice none 0 0, .slice none 0 0, .int .i64 0] 25)) from (((Fut.refl w).alloc _).alloc _).alloc _)
  have HCI := Lib.hid (show CelI (((w.alloc (.cells #[.slice X m xc] 29)).alloc (.cells #[.slice A1 n1 c1, .slice A2 n2 c2, .slice A3 n3 c3, .int .i64 s, .int .i64 u] 34)).alloc (.cells #[.slice none 0 0, .slice none 0 0, .int .i64 0] 25)) (w.heap.size + 1 + 1) (.slice none 0 0) (.slice none 0 0) (.int .i64 0) from by
    exact heap_new' _ _ _ (by simp))
  have q0 : ∀ dd os, (fut (((w.alloc (.cells #[.slice X m xc] 29)).alloc (.cells #[.slice A1 n1 c1, .slice A2 n2 c2, .slice A3 n3 c3, .int .i64 s, .int .i64 u] 34)).alloc (.cells #[.slice none 0 0, .slice none 0 0, .int .i64 0] 25)) dd os).cell? ⟨w.heap.size, 0, none⟩ = some (.slice X m xc) := cell_fut (by (repeat (first | exact (cell_al_new _ _ _ _ _ _ (by first | rfl | (simp only [World.size_alloc]))).trans rfl | refine (cell_al_old _ _ _ (by first | omega | (simp only [World.size_alloc]; omega))).trans ?_)))
  have p0 : ∀ dd os, (fut (((w.alloc (.cells #[.slice X m xc] 29)).alloc (.cells #[.slice A1 n1 c1, .slice A2 n2 c2, .slice A3 n3 c3, .int .i64 s, .int .i64 u] 34)).alloc (.cells #[.slice none 0 0, .slice none 0 0, .int .i64 0] 25)) dd os).cell? ⟨w.heap.size + 1, 0, none⟩ = some (.slice A1 n1 c1) := cell_fut (by (repeat (first | exact (cell_al_new _ _ _ _ _ _ (by first | rfl | (simp only [World.size_alloc]))).trans rfl | refine (cell_al_old _ _ _ (by first | omega | (simp only [World.size_alloc]; omega))).trans ?_)))
  have p1 : ∀ dd os, (fut (((w.alloc (.cells #[.slice X m xc] 29)).alloc (.cells #[.slice A1 n1 c1, .slice A2 n2 c2, .slice A3 n3 c3, .int .i64 s, .int .i64 u] 34)).alloc (.cells #[.slice none 0 0, .slice none 0 0, .int .i64 0] 25)) dd os).cell? ⟨w.heap.size + 1, 1, none⟩ = some (.slice A2 n2 c2) := cell_fut (by (repeat (first | exact (cell_al_new _ _ _ _ _ _ (by first | rfl | (simp only [World.size_alloc]))).trans rfl | refine (cell_al_old _ _ _ (by first | omega | (simp only [World.size_alloc]; omega))).trans ?_)))
  have p2 : ∀ dd os, (fut (((w.alloc (.cells #[.slice X m xc] 29)).alloc (.cells #[.slice A1 n1 c1, .slice A2 n2 c2, .slice A3 n3 c3, .int .i64 s, .int .i64 u] 34)).alloc (.cells #[.slice none 0 0, .slice none 0 0, .int .i64 0] 25)) dd os).cell? ⟨w.heap.size + 1, 2, none⟩ = some (.slice A3 n3 c3) := cell_fut (by (repeat (first | exact (cell_al_new _ _ _ _ _ _ (by first | rfl | (simp only [World.size_alloc]))).trans rfl | refine (cell_al_old _ _ _ (by first | omega | (simp only [World.size_alloc]; omega))).trans ?_)))
  have p3 : ∀ dd os, (fut (((w.alloc (.cells #[.slice X m xc] 29)).alloc (.cells #[.slice A1 n1 c1, .slice A2 n2 c2, .slice A3 n3 c3, .int .i64 s, .int .i64 u] 34)).alloc (.cells #[.slice none 0 0, .slice none 0 0, .int .i64 0] 25)) dd os).cell? ⟨w.heap.size + 1, 3, none⟩ = some (.int .i64 s) := cell_fut (by (repeat (first | exact (cell_al_new _ _ _ _ _ _ (by first | rfl | (simp only [World.size_alloc]))).trans rfl | refine (cell_al_old _ _ _ (by first | omega | (simp only [World.size_alloc]; omega))).trans ?_)))
  have p4 : ∀ dd os, (fut (((w.alloc (.cells #[.slice X m xc] 29)).alloc (.cells #[.slice A1 n1 c1, .slice A2 n2 c2, .slice A3 n3 c3, .int .i64 s, .int .i64 u] 34)).alloc (.cells #[.slice none 0 0, .slice none 0 0, .int .i64 0] 25)) dd os).cell? ⟨w.heap.size + 1, 4, none⟩ = some (.int .i64 u) := cell_fut (by (repeat (first | exact (cell_al_new _ _ _ _ _ _ (by first | rfl | (simp only [World.size_alloc]))).trans rfl | refine (cell_al_old _ _ _ (by first | omega | (simp only [World.size_alloc]; omega))).trans ?_)))
  have HPS := Lib.hid (And.intro p0 (And.intro p1 (And.intro p2 (And.intro p3 p4))))
  have hsz : (((w.alloc (.cells #[.slice X m xc] 29)).alloc (.cells #[.slice A1 n1 c1, .slice A2 n2 c2, .slice A3 n3 c3, .int .i64 s, .int .i64 u] 34)).alloc (.cells #[.slice none 0 0, .slice none 0 0, .int .i64 0] 25)).heap.size = w.heap.size + 1 + 1 + 1 := by simp
  by_cases hP : pricesB ins del rep s u = true ∧ (m = 0 ∨ m = n)
  · obtain ⟨hpr, hmn⟩ := hP
    have HPR := Lib.hid hpr
    have HPB := Lib.hid (fun w' f1 f2 f3 => prices_any A1 n1 c1 A2 n2 c2 A3 n3 c3 s u ins del rep w' L1.out L2.out L3.out (by unfold maxLen; omega) HB2.out HB3.out f1 f2 f3)
    rw [hpr] at HPB
    have hcases : ((m : Int) = 0) ∨ (¬ (m : Int) = 0 ∧ (m : Int) = (n : Int)) := by omega
    have HMN := Lib.hid hmn
    clear hpr hmn
    go_enter Try.func15, Try.ntmps15
    rcases hcases with hm0 | ⟨hm0, hmn⟩
    all_goals
      first
        | (have gg := cmpF_yes hm0; obtain ⟨g1, g2, g5⟩ := gg)
        | (have gg := cmpF_no hm0; have gh := cmpF_yes hmn; obtain ⟨g1, g2, g5⟩ := gg; obtain ⟨g3, g4, g6⟩ := gh; clear hmn g3)
      clear hm0
      go_wp2_with (go_at_call 27; refine (HPB.out _ (R1.out.fut HWW.out) (R2.out.fut HWW.out) (R3.out.fut HWW.out)).mono ?_; rintro e w1 ⟨rfl, hb1⟩; obtain ⟨dd, oo, rfl⟩ := fut_of hb1; clear hb1)
      have HF0 := Lib.hid (Fut.fut (((w.alloc (.cells #[.slice X m xc] 29)).alloc (.cells #[.slice A1 n1 c1, .slice A2 n2 c2, .slice A3 n3 c3, .int .i64 s, .int .i64 u] 34)).alloc (.cells #[.slice none 0 0, .slice none 0 0, .int .i64 0] 25)) dd oo)
      generalize (((w.alloc (.cells #[.slice X m xc] 29)).alloc (.cells #[.slice A1 n1 c1, .slice A2 n2 c2, .slice A3 n3 c3, .int .i64 s, .int .i64 u] 34)).alloc (.cells #[.slice none 0 0, .slice none 0 0, .int .i64 0] 25)) = wb at *
      go_loopw [40] (fun i wr => ∃ j : Nat, j ≤ n ∧ i = .int .i64 j ∧ Hid (∀ t, t < j → okT n1 (gi ks t) (cf cs t) = true) ∧ Hid (Fut wb wr)) (fun i _ => n - (intOf i).toNat)
      case atStart => exact ⟨0, Nat.zero_le _, rfl, Lib.hid (fun t h => absurd h (Nat.not_lt_zero _)), HF0⟩
      case round =>
        obtain ⟨j, hj, rfl, hall, hF⟩ := hrel
        clear HF0
        by_cases hlt : j < n
        · obtain ⟨kd, hkd⟩ := get_lt HKL.out hlt
          obtain ⟨b5, o5, rfl, e5⟩ := HZ0.out j kd hkd
          have HKD := Lib.hid (gi_get hkd)
          have e6 := (HWW.out.trans hF.out).cell e5
          clear hkd e5
          by_cases hk1 : kd < -1
          · obtain ⟨d2, o2, rfl⟩ := fut_of hF.out
            have f9 : Fut wb (fut wb d2 o2) := Fut.fut _ _ _
            have i0 := (HCI.out.fut f9).c0
            have i1 := (HCI.out.fut f9).c1
            have i2 := (HCI.out.fut f9).c2
            have i3 := (HCI.out.fut f9).fz 0
            have i4 := (HCI.out.fut f9).fz 1
            have i5 := (HCI.out.fut f9).fz 2
            have HCZ := Lib.hid ((HCI.out.fut f9).sets (.slice none 0 0) (.slice none 0 0) (.int .i64 0))
            have HFZ := Lib.hid (sets_fut (b := w.heap.size + 1 + 1) (HWW.out.trans f9) (by omega) (.slice none 0 0) (.slice none 0 0) (.int .i64 0))
            have HFin := Lib.hid (ofE_bad2 (ins := ins) (del := del) (rep := rep) (s := s) (u := u) (i := j) (ks := ks) (cs := cs) (by have := HKL.out; omega) (by rw [HKD.out]; simp only [okT]; rw [decide_eq_false (by omega : ¬ -1 ≤ kd)]; simp))
            clear f9
            go_wp2_with (go_at_call 22; refine (large_any _ _).mono ?_; rintro e w1 ⟨rfl, hw1⟩; replace hw1 := hw1.symm; subst hw1)
            refine bodyPost_ret (res_cell2 of_res _ _ (w.heap.size + 1 + 1) _ _ _ _ rfl HCZ.out Try.underlying25 rfl (by kernel_rfl)) rfl ?_
            rw [HFin.out]
            exact ⟨⟨fun _ => rfl, fun h => absurd h (by decide)⟩, HFZ.out⟩

          · by_cases hk2 : (n1 : Int) ≤ kd
            · obtain ⟨d2, o2, rfl⟩ := fut_of hF.out
              have f9 : Fut wb (fut wb d2 o2) := Fut.fut _ _ _
              have i0 := (HCI.out.fut f9).c0
              have i1 := (HCI.out.fut f9).c1
              have i2 := (HCI.out.fut f9).c2
              have i3 := (HCI.out.fut f9).fz 0
              have i4 := (HCI.out.fut f9).fz 1
              have i5 := (HCI.out.fut f9).fz 2
              have HCZ := Lib.hid ((HCI.out.fut f9).sets (.slice none 0 0) (.slice none 0 0) (.int .i64 0))
              have HFZ := Lib.hid (sets_fut (b := w.heap.size + 1 + 1) (HWW.out.trans f9) (by omega) (.slice none 0 0) (.slice none 0 0) (.int .i64 0))
              have HFin := Lib.hid (ofE_bad2 (ins := ins) (del := del) (rep := rep) (s := s) (u := u) (i := j) (ks := ks) (cs := cs) (by have := HKL.out; omega) (by rw [HKD.out, L1.out]; simp only [okT]; rw [decide_eq_false (by omega : ¬ kd < (n1 : Int))]; simp))
              clear f9
              go_wp2_with (go_at_call 22; refine (large_any _ _).mono ?_; rintro e w1 ⟨rfl, hw1⟩; replace hw1 := hw1.symm; subst hw1)
              refine bodyPost_ret (res_cell2 of_res _ _ (w.heap.size + 1 + 1) _ _ _ _ rfl HCZ.out Try.underlying25 rfl (by kernel_rfl)) rfl ?_
              rw [HFin.out]
              exact ⟨⟨fun _ => rfl, fun h => absurd h (by decide)⟩, HFZ.out⟩

            · have HO1 := Lib.hid (fun w' h => of1_any w.heap.size j X m xc cs w' h HCL.out (by have := HMN.out; omega) HM.out)
              obtain ⟨d2, o2, rfl⟩ := fut_of hF.out
              go_wp2_with (go_at_call 28; refine (HO1.out _ (q0 d2 o2) (HX0.out.fut (HWW.out.trans (Fut.fut _ _ _)))).mono ?_; rintro e w1 ⟨⟨XA, Xc, rfl, hxr, hxl⟩, hw1⟩; replace hw1 := hw1.symm; subst hw1; have HXR := Lib.hid hxr; have HXL := Lib.hid hxl; have hxl' : (cf cs j).length ≤ 9223372036854775807 := hxl; clear hxr hxl)
              have HOK := Lib.hid (show ∀ b, (cf cs j).all (okX n1 kd) = b → okT n1 (gi ks j) (cf cs j) = b from fun b hb => by
                rw [HKD.out]; simp only [okT, hb]
                rw [decide_eq_true (by omega : -1 ≤ kd), decide_eq_true (by omega : kd < (n1 : Int))]; rfl)
              obtain ⟨wj, hwj⟩ : ∃ q, q = fut wb d2 o2 := ⟨_, rfl⟩
              have HFJ := Lib.hid (show Fut wb wj from by rw [hwj]; exact Fut.fut _ _ _)
              rw [← hwj] at HXR
              clear hF HO1
              rw [← hwj]
              clear hwj
              generalize hxx : cf cs j = xs at *
              go_loopw [57] (fun i wq => ∃ k : Nat, k ≤ xs.length ∧ i = .int .i64 k ∧ Hid ((xs.take k).all (okX n1 kd) = true) ∧ Hid (Fut wj wq)) (fun i _ => xs.length - (intOf i).toNat)
              case atStart => exact ⟨0, Nat.zero_le _, rfl, Lib.hid (by simp), Lib.hid (Fut.refl _)⟩
              case round =>
                obtain ⟨k, hk, rfl, hall2, hF2⟩ := hrel
                obtain ⟨wx, rfl⟩ : ∃ q, q = wr := ⟨_, rfl⟩
                by_cases hlt2 : k < xs.length
                · obtain ⟨⟨x1, x2⟩, hx⟩ := get_lt rfl hlt2
                  obtain ⟨b7, o7, rfl, e7⟩ := HXR.out k _ hx
                  have v0 := hF2.out.cell (e7 0 _ (by decide) rfl)
                  have v1 := hF2.out.cell (e7 1 _ (by decide) rfl)
                  simp only [Nat.add_zero] at v0
                  have HXX := Lib.hid hx
                  clear hx e7
                  have HFA := Lib.hid (show Fut wb (wx.alloc (.cells #[.int .i64 x1, .int .i64 x2] 53)) from (HFJ.out.trans hF2.out).alloc _)
                  have hcase : (okX n1 kd (x1, x2) = true ∧ ¬ x1 < 0 ∧ x1 < n1 ∧ ¬ x1 = kd ∧ lg x2 = true) ∨ (okX n1 kd (x1, x2) = false ∧ (x1 < 0 ∨ ¬ x1 < 0 ∧ ((n1 : Int) ≤ x1 ∨ x1 < n1 ∧ (x1 = kd ∨ ¬ x1 = kd ∧ lg x2 = false)))) := by
                    unfold okX
                    simp only
                    by_cases a1 : x1 < 0
                    · right; rw [decide_eq_false (by omega : ¬ 0 ≤ x1)]; exact ⟨by simp, .inl a1⟩
                    · rw [decide_eq_true (by omega : 0 ≤ x1)]
                      by_cases a2 : x1 < n1
                      · rw [decide_eq_true a2]
                        by_cases a3 : x1 = kd
                        · right; rw [decide_eq_true a3]; exact ⟨by simp, .inr ⟨a1, .inr ⟨a2, .inl a3⟩⟩⟩
                        · rw [decide_eq_false a3]
                          cases hl : lg x2 with
                          | true => left; exact ⟨rfl, a1, a2, a3, rfl⟩
                          | false => right; exact ⟨rfl, .inr ⟨a1, .inr ⟨a2, .inr ⟨a3, rfl⟩⟩⟩⟩
                      · right; rw [decide_eq_false a2]; exact ⟨by simp, .inr ⟨a1, .inl (by omega)⟩⟩
                  rcases hcase with ⟨hok, a1, a2, a3, a4⟩ | ⟨hok, hcs⟩
                  · have HT := Lib.hid (take_all hall2.out HXX.out hok)
                    obtain ⟨a3a, a3b, a3c⟩ := cmpF_no a3
                    clear hok a3
                    go_wp2_with (go_at_call 22; refine (large_any _ _).mono ?_; rintro e w1 ⟨rfl, hw1⟩; replace hw1 := hw1.symm; subst hw1)
                    exact ⟨⟨k + 1, by omega, by go_num, HT, Lib.hid (hF2.out.alloc _)⟩, by simp [intOf]; omega⟩
                  · have HBAD := Lib.hid (all_not HXX.out hok)
                    clear hok
                    rcases hcs with a1 | ⟨a1, a2 | ⟨a2, a3 | ⟨a3, a4⟩⟩⟩
                    all_goals
                      try (first | (obtain ⟨a3a, a3b, a3c⟩ := cmpF_yes a3; clear a3) | (obtain ⟨a3a, a3b, a3c⟩ := cmpF_no a3; clear a3))
                      have f9 : Fut wb (wx.alloc (.cells #[.int .i64 x1, .int .i64 x2] 53)) := HFA.out
                      have i0 := (HCI.out.fut f9).c0
                      have i1 := (HCI.out.fut f9).c1
                      have i2 := (HCI.out.fut f9).c2
                      have i3 := (HCI.out.fut f9).fz 0
                      have i4 := (HCI.out.fut f9).fz 1
                      have i5 := (HCI.out.fut f9).fz 2
                      have HCZ := Lib.hid ((HCI.out.fut f9).sets (.slice none 0 0) (.slice none 0 0) (.int .i64 0))
                      have HFZ := Lib.hid (sets_fut (b := w.heap.size + 1 + 1) (HWW.out.trans f9) (by omega) (.slice none 0 0) (.slice none 0 0) (.int .i64 0))
                      have HFin := Lib.hid (ofE_bad2 (ins := ins) (del := del) (rep := rep) (s := s) (u := u) (i := j) (ks := ks) (cs := cs) (by have := HKL.out; omega) (by rw [L1.out, hxx]; exact HOK.out false HBAD.out))
                      clear f9
                      go_wp2_with (go_at_call 22; refine (large_any _ _).mono ?_; rintro e w1 ⟨rfl, hw1⟩; replace hw1 := hw1.symm; subst hw1)
                      refine bodyPost_ret (res_cell2 of_res _ _ (w.heap.size + 1 + 1) _ _ _ _ rfl HCZ.out Try.underlying25 rfl (by kernel_rfl)) rfl ?_
                      rw [HFin.out]
                      exact ⟨⟨fun _ => rfl, fun h => absurd h (by decide)⟩, HFZ.out⟩

                · have HA := Lib.hid (HOK.out true (all_take hall2.out (by omega)))
                  subst hxx
                  go_wp2_with fail
                  exact ⟨⟨j + 1, by omega, by go_num, Lib.hid (all_step hall.out HA.out), Lib.hid (HFJ.out.trans hF2.out)⟩, by simp [intOf]; omega⟩
        · have HGD := Lib.hid (ofE_good (ins := ins) (ks := ks) (cs := cs) HPR.out (by rw [HCL.out, HKL.out]; exact HMN.out) (fun i hi => by rw [L1.out]; exact hall.out i (by have := HKL.out; omega)))
          have hjn : j = n := by omega
          by_cases h60 : 60 < n
          · obtain ⟨d2, o2, rfl⟩ := fut_of hF.out
            clear hjn
            have HG2 := Lib.hid (show ofE ks cs ins del rep s u = 11 from by rw [HGD.out, if_pos (by have := HKL.out; omega)])
            have f9 : Fut wb (fut wb d2 o2) := Fut.fut _ _ _
            have i0 := (HCI.out.fut f9).c0
            have i1 := (HCI.out.fut f9).c1
            have i2 := (HCI.out.fut f9).c2
            have i3 := (HCI.out.fut f9).fz 0
            have i4 := (HCI.out.fut f9).fz 1
            have i5 := (HCI.out.fut f9).fz 2
            have HCZ := Lib.hid ((HCI.out.fut f9).sets (.slice none 0 0) (.slice none 0 0) (.int .i64 0))
            have HFZ := Lib.hid (sets_fut (b := w.heap.size + 1 + 1) (HWW.out.trans f9) (by omega) (.slice none 0 0) (.slice none 0 0) (.int .i64 0))
            have HFin := Lib.hid (HG2.out)
            clear f9
            go_wp2_with (go_at_call 22; refine (large_any _ _).mono ?_; rintro e w1 ⟨rfl, hw1⟩; replace hw1 := hw1.symm; subst hw1)
            refine bodyPost_ret (res_cell2 of_res _ _ (w.heap.size + 1 + 1) _ _ _ _ rfl HCZ.out Try.underlying25 rfl (by kernel_rfl)) rfl ?_
            rw [HFin.out]
            exact ⟨⟨fun _ => rfl, fun h => absurd h (by decide)⟩, HFZ.out⟩

          · have HG2 := Lib.hid (show ofE ks cs ins del rep s u = 0 from by rw [HGD.out, if_neg (by have := HKL.out; omega)])
            obtain ⟨wj, rfl⟩ : ∃ q, q = wr := ⟨_, rfl⟩
            have HALL := Lib.hid (show ∀ t, t < n → okT n1 (gi ks t) (cf cs t) = true from fun t ht => hall.out t (by omega))
            have HFJ := hF
            clear hjn hall hF HGD
            go_wp2_with fail
            go_loopw [14, 91] (fun lv i wr => ∃ (j : Nat) (cols : List CC), j ≤ n ∧ i = .int .i64 j ∧ cols.length = j ∧ Hid (cols.map key = (List.range j).map (fun i => keyT n1 rep del u (gi ks i) (cf cs i))) ∧ Hid (OwnC wr (w.heap.size + 1 + 1 + 1) lv cols) ∧ Hid (Fut wb wr)) (fun _ i _ => n - (intOf i).toNat)
            case atStart => exact ⟨0, [], Nat.zero_le _, rfl, rfl, Lib.hid rfl, Lib.hid (OwnC.nil _ _), HFJ⟩
            case round =>
              obtain ⟨j, cols, hj, rfl, hcol, hkey, hown, hF⟩ := hrel
              obtain ⟨va, vc, hlv, hrdc⟩ := hown.out.form
              subst hlv
              obtain ⟨wx, rfl⟩ : ∃ q, q = wr := ⟨_, rfl⟩
              clear HFJ hrdc
              replace hown := Lib.hid (show OwnC wx (w.heap.size + 1 + 1 + 1) (.slice va j vc) cols from by rw [← hcol]; exact hown.out)
              by_cases hlt : j < n
              · obtain ⟨kd, hkd⟩ := get_lt HKL.out hlt
                obtain ⟨b5, o5, rfl, e5⟩ := HZ0.out j kd hkd
                have HKD := Lib.hid (gi_get hkd)
                have e6 := (HWW.out.trans hF.out).cell e5
                clear hkd e5
                have HRS := Lib.hid (prices_rows HPR.out)
                have HOX := Lib.hid (okT_xs (HALL.out j hlt))
                have HO1 := Lib.hid (fun w' h h2 => of1_any w.heap.size j X m xc cs w' h HCL.out (by have := HMN.out; omega) HM.out h2)
                obtain ⟨S, hS⟩ : ∃ S : Nat → Bool, S = fun q => (Value.slice va j vc).ownBlock == some q := ⟨_, rfl⟩
                have hlow : ∀ q, S q = true → w.heap.size + 1 + 1 + 1 ≤ q := fun q hq => by
                  rw [hS] at hq
                  simp only [beq_iff_eq] at hq
                  exact (hown.out.lt q hq).1
                have s1 : S (w.heap.size + 1) = false := bnot fun h => by have := hlow _ h; omega
                have s0 : S w.heap.size = false := bnot fun h => by have := hlow _ h; omega
                have HSO := Lib.hid hS
                clear hS hlow
                obtain ⟨d2, o2, hw2⟩ := fut_of hF.out
                have y0 := q0 d2 o2
                have y1 := HPS.out.1 d2 o2
                have y2 := HPS.out.2.1 d2 o2
                have y3 := HPS.out.2.2.1 d2 o2
                have y4 := HPS.out.2.2.2.1 d2 o2
                have y5 := HPS.out.2.2.2.2 d2 o2
                rw [← hw2] at y0 y1 y2 y3 y4 y5
                clear hw2
                have r0 := cell_futS y1 s1
                have r1 := cell_futS y2 s1
                have r2 := cell_futS y3 s1
                have r3 := cell_futS y4 s1
                have r4 := cell_futS y5 s1
                have y0' : wx.drew.cell? ⟨w.heap.size, 0, none⟩ = some (.slice X m xc) := y0
                have HFW := Lib.hid (show Fut w wx from HWW.out.trans hF.out)
                go_wp2_with fail
                refine wp_region_MG (relS S) o_columns_Of_23 (by kernel_rfl) (by kernel_rfl) (by intro c a d v w h; cases d <;> exact h) ?_; unfold o_columns_Of_23
                iterate 5 (refine wpS_h rfl rfl (fun K hK => ?_); go_simp; refine hK _ _ ?_; clear hK K)
                refine wpG_o rfl rfl (fun K hK => ?_)
                go_simp
                go_at_call 28
                refine (HO1.out _ y0' ((HX0.out.fut HFW.out).fut (Fut.refl _).drew)).mono ?_
                rintro e w1 ⟨⟨XA, Xc, rfl, hxr, hxl⟩, hw1⟩
                replace hw1 := hw1.symm
                subst hw1
                refine hK _ _ (.inr ((relS S).refl _)) ?_
                clear hK K
                refine wpG_o rfl rfl (fun K hK => ?_)
                go_simp
                go_at_call 29
                refine (column_any2 kd XA _ Xc (cf cs j) A1 n1 c1 A2 n2 c2 A3 n3 c3 s u del rep _ (by have := HRS.out.1; have := L1.out; have := L2.out; omega) (by have := HRS.out.2.1; have := L1.out; have := L3.out; omega) (by have := HOX.out.1.1; rw [HKD.out] at this; exact this) (by have := HOX.out.1.2; rw [HKD.out] at this; exact this) b1 (by have := HRS.out.1; have := L1.out; omega) (by have := HRS.out.2.1; have := L1.out; omega) (by have := HRS.out.2.2; rw [L1.out] at this; exact this) (HOX.out.2) rfl hxl (hxr) ((R2.out.fut HFW.out).fut (Fut.refl _).drew) ((R3.out.fut HFW.out).fut (Fut.refl _).drew)).mono ?_
                rintro e w2 ⟨⟨RA, Rc, rfl, hrd, hfar⟩, hb1⟩
                have hf2 : Fut wx w2 := (Fut.refl wx).drew.trans hb1
                refine hK _ _ (.inr ((relS S).of_fut hb1)) ?_
                clear hK K
                have HRD := Lib.hid hrd
                have HFAR := Lib.hid hfar
                have HF2 := Lib.hid hf2
                clear hrd hfar hb1 hf2 hxr
                refine wpG_o rfl rfl (fun K hK => ?_)
                go_simp
                go_at_K
                refine hK _ _ (.inr ((relS S).of_fut ((Fut.refl _).alloc _))) ?_
                clear hK K
                refine wpG_o rfl rfl (fun K hK => ?_)
                have hoj : (w2.alloc (.cells #[.int .i64 kd, .slice RA n1 Rc, .int .i64 (delF kd del u)] 51)).ownsRow (w.heap.size + 1 + 1 + 1) 51 3 (.slice va j vc) j (cols.flatMap encC) := by
                  have h := ((hown.out.fut HF2.out).fut ((Fut.refl _).alloc (.cells #[.int .i64 kd, .slice RA n1 Rc, .int .i64 (delF kd del u)] 51))).own
                  rw [hcol] at h
                  exact h
                refine wp_append_lies _ (.tmp 96) (.tmp 103) 22 rfl (w.heap.size + 1 + 1 + 1) 51 ci _ 3 40 Try.underlying22 ca cz0 cz1 cz2 rfl (by decide) (.slice va j vc) j (cols.flatMap encC) rfl hoj ⟨w2.heap.size, 0, none⟩ 1 1 [.int .i64 kd, .slice RA n1 Rc, .int .i64 (delF kd del u)] rfl rfl ?c1 ?c2 (by decide) ?c3 ?c4 ?c5 (w2.heap.size + 1) ?c6 ?_
                case c1 => exact World.news_of_block (cs := #[.int .i64 kd, .slice RA n1 Rc, .int .i64 (delF kd del u)]) (heap_alloc_new _ _)
                case c2 => intro v hv; simp only [List.mem_cons, List.not_mem_nil, or_false] at hv; rcases hv with rfl | rfl | rfl <;> rfl
                case c3 => unfold maxLen; omega
                case c4 => omega
                case c5 => show _ ≤ (w2.alloc _).heap.size; rw [World.size_alloc]; have h1 := HF2.out.size; have h2 := hF.out.size; omega
                case c6 => show (w2.alloc _).heap.size = _; rw [World.size_alloc]
                intro g cap w3 hown2 hgr hg2 hlt2
                have hoa : OwnC (w2.alloc (.cells #[.int .i64 kd, .slice RA n1 Rc, .int .i64 (delF kd del u)] 51)) (w.heap.size + 1 + 1 + 1) (.slice va j vc) cols := (hown.out.fut HF2.out).fut ((Fut.refl _).alloc _)
                have hfs : FutS S (w2.alloc (.cells #[.int .i64 kd, .slice RA n1 Rc, .int .i64 (delF kd del u)] 51)) w3 := ⟨hgr.os, hgr.tape, hgr.output, hgr.size, fun q hq hs => hgr.block q hq (fun e => by rw [HSO.out] at hs; simp [← e] at hs)⟩
                refine hK _ _ (.inr hfs) ?_
                clear hK K
                have hrow : ((List.range n1).map (rowF kd rep (cf cs j))).length = n1 := by simp
                have HPU := Lib.hid (show OwnC w3 (w.heap.size + 1 + 1 + 1) (.slice (some ⟨g, 0, none⟩) (j + 1) cap) (cols ++ [(⟨kd, (List.range n1).map (rowF kd rep (cf cs j)), delF kd del u, RA, Rc⟩ : CC)]) from by
                  have hpu := hoa.push (cc := ⟨kd, (List.range n1).map (rowF kd rep (cf cs j)), delF kd del u, RA, Rc⟩) (by
                  have he : encC ⟨kd, (List.range n1).map (rowF kd rep (cf cs j)), delF kd del u, RA, Rc⟩ = [.int .i64 kd, .slice RA n1 Rc, .int .i64 (delF kd del u)] := by simp only [encC, hrow]
                  rw [he, hcol]
                  exact hown2) hgr (by rcases hg2 with h | h; exact .inl h; right; show _ = (w2.alloc _).heap.size; rw [World.size_alloc]; exact h) (HRD.out.fut ((Fut.refl _).alloc _)) (by show ((List.range n1).map (rowF kd rep (cf cs j))).length ≤ maxLen; rw [hrow]; unfold maxLen; omega) (fun b o q e => by
                    obtain ⟨h1, h2⟩ := HFAR.out b o q e
                    have h5 := hF.out.size
                    have h6 : wx.drew.heap.size = wx.heap.size := rfl
                    refine ⟨⟨by omega, by rw [World.size_alloc]; omega⟩, fun e2 => ?_⟩
                    have h3 := (hown.out.lt b e2).2
                    have h4 : wx.drew.heap.size = wx.heap.size := rfl
                    omega)
                  rw [hcol] at hpu
                  exact hpu)
                have HFN := Lib.hid (show Fut wb w3 from Below.grown ((hF.out.trans HF2.out).alloc (.cells #[.int .i64 kd, .slice RA n1 Rc, .int .i64 (delF kd del u)] 51)) hgr (by rw [World.size_alloc]; have h1 := HF2.out.size; have h2 := hF.out.size; omega) (fun q hq => by have h1 := (hown.out.lt q hq).1; omega))
                clear hown2 hgr hg2 hlt2 hoa hfs
                (refine wpS_h rfl rfl (fun K hK => ?_); go_simp; refine hK _ _ ?_; clear hK K)
                refine wpG_nil ?_
                have HKN := Lib.hid (show (cols ++ [(⟨kd, (List.range n1).map (rowF kd rep (cf cs j)), delF kd del u, RA, Rc⟩ : CC)]).map key = (List.range (j + 1)).map (fun i => keyT n1 rep del u (gi ks i) (cf cs i)) from by
                  rw [List.map_append, hkey.out, List.range_succ, List.map_append]
                  simp only [List.map_cons, List.map_nil, key, keyT, HKD.out])
                have hcl2 : (cols ++ [(⟨kd, (List.range n1).map (rowF kd rep (cf cs j)), delF kd del u, RA, Rc⟩ : CC)]).length = j + 1 := by rw [List.length_append, hcol]; rfl
                clear y0 y1 y2 y3 y4 y5 r0 r1 r2 r3 r4 y0' e6 hrow hkey
                go_wp2_with fail
                exact ⟨⟨j + 1, _, by omega, by go_num, hcl2, HKN, HPU, HFN⟩, by simp [intOf]; omega⟩
              · have hjn : j = n := by omega
                have hown9 := Lib.hid (show OwnC wx (w.heap.size + 1 + 1 + 1) (.slice va n vc) cols from by rw [← hjn]; exact hown.out)
                have f9 : Fut wb wx := hF.out
                obtain ⟨d2, o2, hw2⟩ := fut_of hF.out
                have y1 := HPS.out.1 d2 o2
                have y4 := HPS.out.2.2.2.1 d2 o2
                rw [← hw2] at y1 y4
                clear hw2
                have i0 := (HCI.out.fut f9).c0
                have i1 := (HCI.out.fut f9).c1
                have i2 := (HCI.out.fut f9).c2
                have i3 := (HCI.out.fut f9).fz 0
                have i4 := (HCI.out.fut f9).fz 1
                have i5 := (HCI.out.fut f9).fz 2
                have HCZ := Lib.hid ((HCI.out.fut f9).sets (.slice va n vc) (.slice A1 n1 c1) (.int .i64 s))
                have HFZ := Lib.hid (sets_fut (b := w.heap.size + 1 + 1) (HWW.out.trans f9) (by omega) (.slice va n vc) (.slice A1 n1 c1) (.int .i64 s))
                have HRC := Lib.hid (hown9.out.sets (b := w.heap.size + 1 + 1) (by omega) (.slice va n vc) (.slice A1 n1 c1) (.int .i64 s))
                clear f9 hown
                go_wp2_with fail
                refine bodyPost_ret (res_cell2 of_res _ _ (w.heap.size + 1 + 1) _ _ _ _ rfl HCZ.out Try.underlying25 rfl (by kernel_rfl)) rfl ?_
                rw [HG2.out]
                obtain ⟨va2, vc2, hv2, hrd2⟩ := HRC.out.form
                injection hv2 with e1 e2 e3
                subst e1
                refine ⟨⟨fun h => absurd rfl h, fun _ => ⟨va, vc, cols, ?_, ?_, hrd2, ?_, ?_, ?_⟩⟩, HFZ.out⟩
                · rfl
                · rw [hkey.out, hjn]; unfold ofK; rw [HKL.out]
                · intro b o q e9
                  have h9 := HRC.out.lt b (by rw [e9]; rfl)
                  omega
                · intro y hy b o q e9
                  have h9 := (HRC.out.far y hy b o q e9).1.1
                  omega
                · rcases HRC.out.own.2 with ⟨h9, h10⟩ | ⟨g9, cap9, cur9, h9, _, _, h10, h11, _⟩
                  · injection h9 with e4 e5 e6
                    exact ⟨.inl ⟨e5, e6⟩, by omega, by rw [e6]; exact Nat.zero_le _⟩
                  · injection h9 with e4 e5 e6
                    refine ⟨.inr ⟨g9, 0, e4⟩, by omega, by omega⟩
  · have HFin := Lib.hid (ofE_bad1 (ks := ks) (cs := cs) (ins := ins) (del := del) (rep := rep) (s := s) (u := u) (by rw [HCL.out, HKL.out]; exact hP))
    have hor : pricesB ins del rep s u = false ∨ (pricesB ins del rep s u = true ∧ ¬ (m : Int) = 0 ∧ ¬ (m : Int) = (n : Int)) := by
      cases hpr : pricesB ins del rep s u with
      | false => exact .inl rfl
      | true =>
        refine .inr ⟨rfl, fun e => hP ⟨hpr, .inl (by omega)⟩, fun e => hP ⟨hpr, .inr (by omega)⟩⟩
    have HPB := Lib.hid (fun w' f1 f2 f3 => prices_any A1 n1 c1 A2 n2 c2 A3 n3 c3 s u ins del rep w' L1.out L2.out L3.out (by unfold maxLen; omega) HB2.out HB3.out f1 f2 f3)
    have HCA := Lib.hid (fun dd os => HCI.out.fut (Fut.fut (((w.alloc (.cells #[.slice X m xc] 29)).alloc (.cells #[.slice A1 n1 c1, .slice A2 n2 c2, .slice A3 n3 c3, .int .i64 s, .int .i64 u] 34)).alloc (.cells #[.slice none 0 0, .slice none 0 0, .int .i64 0] 25)) dd os))
    have i0 := fun dd os => (HCA.out dd os).c0
    have i1 := fun dd os => (HCA.out dd os).c1
    have i2 := fun dd os => (HCA.out dd os).c2
    have i3 := fun dd os => (HCA.out dd os).fz 0
    have i4 := fun dd os => (HCA.out dd os).fz 1
    have i5 := fun dd os => (HCA.out dd os).fz 2
    clear hP
    rcases hor with hpr | ⟨hpr, hm0, hmn⟩
    all_goals
      rw [hpr] at HPB
      clear hpr
      try (have gg := cmpF_no hm0; have gh := cmpF_no hmn; obtain ⟨g1, g2, g5⟩ := gg; obtain ⟨g3, g4, g6⟩ := gh; clear hmn hm0)
      go_enter Try.func15, Try.ntmps15
      go_wp2_with (go_at_call 27; refine (HPB.out _ (R1.out.fut HWW.out) (R2.out.fut HWW.out) (R3.out.fut HWW.out)).mono ?_; rintro e w1 ⟨rfl, hb1⟩; obtain ⟨dd, oo, rfl⟩ := fut_of hb1; clear hb1)
      have HCZ := Lib.hid ((HCA.out dd oo).sets (.slice none 0 0) (.slice none 0 0) (.int .i64 0))
      have HFZ := Lib.hid (sets_fut (b := w.heap.size + 1 + 1) (HWW.out.trans (Fut.fut (((w.alloc (.cells #[.slice X m xc] 29)).alloc (.cells #[.slice A1 n1 c1, .slice A2 n2 c2, .slice A3 n3 c3, .int .i64 s, .int .i64 u] 34)).alloc (.cells #[.slice none 0 0, .slice none 0 0, .int .i64 0] 25)) dd oo)) (by omega) (.slice none 0 0) (.slice none 0 0) (.int .i64 0))
      refine bodyPost_ret (res_cell2 of_res _ _ (w.heap.size + 1 + 1) _ _ _ _ rfl HCZ.out Try.underlying25 rfl (by kernel_rfl)) rfl ?_
      rw [HFin.out]
      exact ⟨⟨fun _ => rfl, fun h => absurd h (by decide)⟩, HFZ.out⟩
theorem of_any (Z : Option Addr) (n zc : Nat) (ks : List Int) (X : Option Addr) (m xc : Nat) (cs : List XX) (A1 : Option Addr) (n1 c1 : Nat) (A2 : Option Addr) (n2 c2 : Nat) (A3 : Option Addr) (n3 c3 : Nat) (s u : Int) (ins del : List Int) (rep : List RR) (w : World)
    (hkl : ks.length = n) (hn : n ≤ 100000) (hcl : cs.length = m) (hm : m ≤ maxLen) (h1 : ins.length = n1) (h2 : del.length = n2) (h3 : rep.length = n3) (b1 : n1 ≤ 1000) (b2 : n2 ≤ maxLen) (b3 : n3 ≤ maxLen)
    (hZ : Rd1 w Z (.int .i64 ·) ks) (hX : RdX w X cs) (r1 : Rd1 w A1 (.int .i64 ·) ins) (r2 : Rd1 w A2 (.int .i64 ·) del) (r3 : RdR w A3 rep) :
    Calls Try.prog 15 #[.slice Z n zc, .slice X m xc, pv A1 n1 c1 A2 n2 c2 A3 n3 c3 s u] w fun e w' => OfR w' e A1 n1 c1 s n (ofE ks cs ins del rep s u) (ofK ks cs del rep u n1) ∧ Below w.heap.size w w' :=
  (of_anyq Z n zc ks X m xc cs A1 n1 c1 A2 n2 c2 A3 n3 c3 s u ins del rep w hkl hn hcl hm h1 h2 h3 b1 b2 b3 hZ hX r1 r2 r3).mono fun e w' h => ⟨⟨h.1.1, fun hE => by
    obtain ⟨A, c, cols, g1, g2, g3, _⟩ := h.1.2 hE
    exact ⟨A, c, cols, g1, g2, g3⟩⟩, h.2⟩
end Go.Proofs.Ytagmpbgidooibaa
