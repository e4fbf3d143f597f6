/-
  The bounds that the laws ask first, walked.
-/
import Derived.Test.YtagmpbgidooibaaC6
namespace Go.Proofs.Ytagmpbgidooibaa
open Go.RowKit
attribute [local go_sem] Oper.lit fut_fut fut_drew World.cell?_alloc_some
/-- a row of confusions (kind, price), and where it lies -/
structure XX where
  l : List (Int × Int)
  A : Option Addr
  k : Nat
def encP (p : Int × Int) : List Value := [.int .i64 p.1, .int .i64 p.2]
def encX (x : XX) : List Value := [.slice x.A x.l.length x.k]
def RdX (w : World) (A : Option Addr) (xs : List XX) : Prop := RdS w A 1 encX xs ∧ ∀ x ∈ xs, RdS w x.A 2 encP x.l ∧ x.l.length ≤ maxLen
theorem RdX.fut {w w' : World} {A : Option Addr} {xs : List XX} (h : RdX w A xs) (hf : Fut w w') : RdX w' A xs :=
  ⟨h.1.fut hf, fun r hr => ⟨(h.2 r hr).1.fut hf, (h.2 r hr).2⟩⟩
abbrev tv (A : Option Addr) (n c : Nat) (B : Option Addr) (m d : Nat) : Value := .agg #[.slice A n c, .slice B m d]
def fewI (cs : List CC) (ins : List Int) : Bool := (decide (cs.length ≤ 70) && decide (ins.length ≤ 20)) && cs.all (fun c => decide (c.r.length ≤ 20))
def fewP (ins del : List Int) (rep : List RR) : Bool := (decide (ins.length ≤ 20) && decide (del.length ≤ 20) && decide (rep.length ≤ 20)) && rep.all (fun c => decide (c.l.length ≤ 20))
def fewZ (ks : List Int) (xs : List XX) : Bool := (decide (ks.length ≤ 70) && decide (xs.length ≤ 70)) && xs.all (fun c => decide (c.l.length ≤ 10))
set_option maxHeartbeats 6400000 in
set_option maxRecDepth 4000 in
theorem few_any (A : Option Addr) (n c : Nat) (cs : List CC) (B : Option Addr) (m d : Nat) (ins : List Int) (s : Int) (w : World) (hcs : cs.length = n) (bcs : n ≤ maxLen) (hins : ins.length = m) (bins : m ≤ maxLen) (hR : RdC w A cs) :
    Calls Try.prog 9 #[iv A n c B m d s, .int .i64 70, .int .i64 20] w fun e w' => e = .returned (.bool (fewI cs ins)) ∧ Below w.heap.size w w' := by
  have HW := Lib.hid ((Fut.refl w).alloc (.cells #[.slice A n c, .slice B m d, .int .i64 s] 25))
  have q0 : (w.alloc (.cells #[.slice A n c, .slice B m d, .int .i64 s] 25)).cell? ⟨w.heap.size, 0, none⟩ = some (.slice A n c) := by (repeat (first | exact (cell_al_new _ _ _ _ _ _ (by first | rfl | (simp only [World.size_alloc]))).trans rfl | refine (cell_al_old _ _ _ (by first | omega | (simp only [World.size_alloc]; omega))).trans ?_))
  have q1 : (w.alloc (.cells #[.slice A n c, .slice B m d, .int .i64 s] 25)).cell? ⟨w.heap.size, 1, none⟩ = some (.slice B m d) := by (repeat (first | exact (cell_al_new _ _ _ _ _ _ (by first | rfl | (simp only [World.size_alloc]))).trans rfl | refine (cell_al_old _ _ _ (by first | omega | (simp only [World.size_alloc]; omega))).trans ?_))
  have q2 : (w.alloc (.cells #[.slice A n c, .slice B m d, .int .i64 s] 25)).cell? ⟨w.heap.size, 2, none⟩ = some (.int .i64 s) := by (repeat (first | exact (cell_al_new _ _ _ _ _ _ (by first | rfl | (simp only [World.size_alloc]))).trans rfl | refine (cell_al_old _ _ _ (by first | omega | (simp only [World.size_alloc]; omega))).trans ?_))
  have Kcs : n ≤ 9223372036854775807 := bcs
  have Lcs := Lib.hid hcs
  have Kins : m ≤ 9223372036854775807 := bins
  have Lins := Lib.hid hins
  have R := Lib.hid (hR.fut HW.out)
  clear hR bcs hcs bins hins
  by_cases hg : n ≤ 70 ∧ m ≤ 20
  · obtain ⟨g0, g1⟩ := hg
    have HG := Lib.hid (show ∀ b, cs.all (fun c => decide (c.r.length ≤ 20)) = b → fewI cs ins = b from fun b hb => by
      have v0 : cs.length ≤ 70 := by rw [Lcs.out]; exact g0
      have v1 : ins.length ≤ 20 := by rw [Lins.out]; exact g1
      rw [fewI, hb]
      simp only [v0, v1, decide_true, Bool.true_and])
    have z0 : ((70 : Int) < (n : Int)) = False := eq_false (by omega)
    have z1 : ((20 : Int) < (m : Int)) = False := eq_false (by omega)
    go_enter Try.func9, Try.ntmps9
    go_wp2_with fail
    generalize w.alloc (.cells #[.slice A n c, .slice B m d, .int .i64 s] 25) = wb at *
    go_loopw [7] (fun i wr => ∃ j : Nat, j ≤ n ∧ i = .int .i64 j ∧ Hid ((cs.take j).all (fun c => decide (c.r.length ≤ 20)) = true) ∧ wr = wb) (fun i _ => n - (intOf i).toNat)
    case atStart => exact ⟨0, Nat.zero_le _, rfl, Lib.hid (by simp), rfl⟩
    case round =>
      obtain ⟨j, hj, rfl, hall, rfl⟩ := hrel
      by_cases hlt : j < n
      · obtain ⟨x, hx⟩ := get_lt Lcs.out hlt
        obtain ⟨b, o, rfl, hc⟩ := R.out.1 j x hx
        have hc1 := hc 1 _ (by decide) rfl
        try simp only [Nat.mul_one, Nat.add_zero] at hc1
        have hxl := (R.out.2 x (List.mem_of_getElem? hx)).2
        have hxl' : x.r.length ≤ 9223372036854775807 := hxl
        have HX := Lib.hid hx
        clear hx hc hxl
        by_cases hs : x.r.length ≤ 20
        · have HT := Lib.hid (take_all (p := fun c => decide (c.r.length ≤ 20)) hall.out HX.out (decide_eq_true hs))
          have hs2 : ((20 : Int) < (x.r.length : Int)) = False := eq_false (by omega)
          clear hs
          go_wp2_with fail
          exact ⟨⟨j + 1, by omega, by go_num, HT, by first | rfl | trivial⟩, by simp [intOf]; omega⟩
        · have HFin := Lib.hid (HG.out false (all_not HX.out (decide_eq_false hs)))
          have hs2 : ((20 : Int) < (x.r.length : Int)) = True := eq_true (by omega)
          clear hs
          go_wp2_with fail
          go_ret
          exact ⟨by rw [HFin.out]; rfl, HW.out⟩
      · have HFin := Lib.hid (HG.out true (all_take hall.out (by have := Lcs.out; omega)))
        go_wp2_with fail
        go_ret
        exact ⟨by rw [HFin.out]; rfl, HW.out⟩
  · have HFin := Lib.hid (show fewI cs ins = false from by
      refine bnot fun h => hg ?_
      simp only [fewI, Bool.and_eq_true, decide_eq_true_eq] at h
      have := Lcs.out
      have := Lins.out
      omega)
    have hor : (70 < n) ∨ (¬ 70 < n ∧ 20 < m) := by omega
    clear hg
    rcases hor with g0 | ⟨g0, g1⟩
    all_goals
      try (first | (have z0 : ((70 : Int) < (n : Int)) = True := eq_true (by omega)) | (have z0 : ((70 : Int) < (n : Int)) = False := eq_false (by omega)))
      try (first | (have z1 : ((20 : Int) < (m : Int)) = True := eq_true (by omega)) | (have z1 : ((20 : Int) < (m : Int)) = False := eq_false (by omega)))
      go_enter Try.func9, Try.ntmps9
      go_wp2_with fail
      go_ret
      exact ⟨by rw [HFin.out]; rfl, HW.out⟩
set_option maxHeartbeats 6400000 in
set_option maxRecDepth 4000 in
theorem fewP_any (A1 : Option Addr) (n1 c1 : Nat) (A2 : Option Addr) (n2 c2 : Nat) (A3 : Option Addr) (n3 c3 : Nat) (s u : Int) (ins del : List Int) (rep : List RR) (w : World) (hins : ins.length = n1) (hdel : del.length = n2) (hrep : rep.length = n3) (bins : n1 ≤ maxLen) (bdel : n2 ≤ maxLen) (brep : n3 ≤ maxLen) (hR : RdR w A3 rep) :
    Calls Try.prog 14 #[pv A1 n1 c1 A2 n2 c2 A3 n3 c3 s u, .int .i64 20] w fun e w' => e = .returned (.bool (fewP ins del rep)) ∧ Below w.heap.size w w' := by
  have HW := Lib.hid ((Fut.refl w).alloc (.cells #[.slice A1 n1 c1, .slice A2 n2 c2, .slice A3 n3 c3, .int .i64 s, .int .i64 u] 34))
  have q0 : (w.alloc (.cells #[.slice A1 n1 c1, .slice A2 n2 c2, .slice A3 n3 c3, .int .i64 s, .int .i64 u] 34)).cell? ⟨w.heap.size, 0, none⟩ = some (.slice A1 n1 c1) := by (repeat (first | exact (cell_al_new _ _ _ _ _ _ (by first | rfl | (simp only [World.size_alloc]))).trans rfl | refine (cell_al_old _ _ _ (by first | omega | (simp only [World.size_alloc]; omega))).trans ?_))
  have q1 : (w.alloc (.cells #[.slice A1 n1 c1, .slice A2 n2 c2, .slice A3 n3 c3, .int .i64 s, .int .i64 u] 34)).cell? ⟨w.heap.size, 1, none⟩ = some (.slice A2 n2 c2) := by (repeat (first | exact (cell_al_new _ _ _ _ _ _ (by first | rfl | (simp only [World.size_alloc]))).trans rfl | refine (cell_al_old _ _ _ (by first | omega | (simp only [World.size_alloc]; omega))).trans ?_))
  have q2 : (w.alloc (.cells #[.slice A1 n1 c1, .slice A2 n2 c2, .slice A3 n3 c3, .int .i64 s, .int .i64 u] 34)).cell? ⟨w.heap.size, 2, none⟩ = some (.slice A3 n3 c3) := by (repeat (first | exact (cell_al_new _ _ _ _ _ _ (by first | rfl | (simp only [World.size_alloc]))).trans rfl | refine (cell_al_old _ _ _ (by first | omega | (simp only [World.size_alloc]; omega))).trans ?_))
  have q3 : (w.alloc (.cells #[.slice A1 n1 c1, .slice A2 n2 c2, .slice A3 n3 c3, .int .i64 s, .int .i64 u] 34)).cell? ⟨w.heap.size, 3, none⟩ = some (.int .i64 s) := by (repeat (first | exact (cell_al_new _ _ _ _ _ _ (by first | rfl | (simp only [World.size_alloc]))).trans rfl | refine (cell_al_old _ _ _ (by first | omega | (simp only [World.size_alloc]; omega))).trans ?_))
  have q4 : (w.alloc (.cells #[.slice A1 n1 c1, .slice A2 n2 c2, .slice A3 n3 c3, .int .i64 s, .int .i64 u] 34)).cell? ⟨w.heap.size, 4, none⟩ = some (.int .i64 u) := by (repeat (first | exact (cell_al_new _ _ _ _ _ _ (by first | rfl | (simp only [World.size_alloc]))).trans rfl | refine (cell_al_old _ _ _ (by first | omega | (simp only [World.size_alloc]; omega))).trans ?_))
  have Kins : n1 ≤ 9223372036854775807 := bins
  have Lins := Lib.hid hins
  have Kdel : n2 ≤ 9223372036854775807 := bdel
  have Ldel := Lib.hid hdel
  have Krep : n3 ≤ 9223372036854775807 := brep
  have Lrep := Lib.hid hrep
  have R := Lib.hid (hR.fut HW.out)
  clear hR bins hins bdel hdel brep hrep
  by_cases hg : n1 ≤ 20 ∧ n2 ≤ 20 ∧ n3 ≤ 20
  · obtain ⟨g0, g1, g2⟩ := hg
    have HG := Lib.hid (show ∀ b, rep.all (fun c => decide (c.l.length ≤ 20)) = b → fewP ins del rep = b from fun b hb => by
      have v0 : ins.length ≤ 20 := by rw [Lins.out]; exact g0
      have v1 : del.length ≤ 20 := by rw [Ldel.out]; exact g1
      have v2 : rep.length ≤ 20 := by rw [Lrep.out]; exact g2
      rw [fewP, hb]
      simp only [v0, v1, v2, decide_true, Bool.true_and])
    have z0 : ((20 : Int) < (n1 : Int)) = False := eq_false (by omega)
    have z1 : ((20 : Int) < (n2 : Int)) = False := eq_false (by omega)
    have z2 : ((20 : Int) < (n3 : Int)) = False := eq_false (by omega)
    go_enter Try.func14, Try.ntmps14
    go_wp2_with fail
    generalize w.alloc (.cells #[.slice A1 n1 c1, .slice A2 n2 c2, .slice A3 n3 c3, .int .i64 s, .int .i64 u] 34) = wb at *
    go_loopw [5] (fun i wr => ∃ j : Nat, j ≤ n3 ∧ i = .int .i64 j ∧ Hid ((rep.take j).all (fun c => decide (c.l.length ≤ 20)) = true) ∧ wr = wb) (fun i _ => n3 - (intOf i).toNat)
    case atStart => exact ⟨0, Nat.zero_le _, rfl, Lib.hid (by simp), rfl⟩
    case round =>
      obtain ⟨j, hj, rfl, hall, rfl⟩ := hrel
      by_cases hlt : j < n3
      · obtain ⟨x, hx⟩ := get_lt Lrep.out hlt
        obtain ⟨b, o, rfl, hc⟩ := R.out.1 j x hx
        have hc1 := hc 0 _ (by decide) rfl
        try simp only [Nat.mul_one, Nat.add_zero] at hc1
        have hxl := (R.out.2 x (List.mem_of_getElem? hx)).2
        have hxl' : x.l.length ≤ 9223372036854775807 := hxl
        have HX := Lib.hid hx
        clear hx hc hxl
        by_cases hs : x.l.length ≤ 20
        · have HT := Lib.hid (take_all (p := fun c => decide (c.l.length ≤ 20)) hall.out HX.out (decide_eq_true hs))
          have hs2 : ((20 : Int) < (x.l.length : Int)) = False := eq_false (by omega)
          clear hs
          go_wp2_with fail
          exact ⟨⟨j + 1, by omega, by go_num, HT, by first | rfl | trivial⟩, by simp [intOf]; omega⟩
        · have HFin := Lib.hid (HG.out false (all_not HX.out (decide_eq_false hs)))
          have hs2 : ((20 : Int) < (x.l.length : Int)) = True := eq_true (by omega)
          clear hs
          go_wp2_with fail
          go_ret
          exact ⟨by rw [HFin.out]; rfl, HW.out⟩
      · have HFin := Lib.hid (HG.out true (all_take hall.out (by have := Lrep.out; omega)))
        go_wp2_with fail
        go_ret
        exact ⟨by rw [HFin.out]; rfl, HW.out⟩
  · have HFin := Lib.hid (show fewP ins del rep = false from by
      refine bnot fun h => hg ?_
      simp only [fewP, Bool.and_eq_true, decide_eq_true_eq] at h
      have := Lins.out
      have := Ldel.out
      have := Lrep.out
      omega)
    have hor : (20 < n1) ∨ (¬ 20 < n1 ∧ 20 < n2) ∨ (¬ 20 < n1 ∧ ¬ 20 < n2 ∧ 20 < n3) := by omega
    clear hg
    rcases hor with g0 | ⟨g0, g1⟩ | ⟨g0, g1, g2⟩
    all_goals
      try (first | (have z0 : ((20 : Int) < (n1 : Int)) = True := eq_true (by omega)) | (have z0 : ((20 : Int) < (n1 : Int)) = False := eq_false (by omega)))
      try (first | (have z1 : ((20 : Int) < (n2 : Int)) = True := eq_true (by omega)) | (have z1 : ((20 : Int) < (n2 : Int)) = False := eq_false (by omega)))
      try (first | (have z2 : ((20 : Int) < (n3 : Int)) = True := eq_true (by omega)) | (have z2 : ((20 : Int) < (n3 : Int)) = False := eq_false (by omega)))
      go_enter Try.func14, Try.ntmps14
      go_wp2_with fail
      go_ret
      exact ⟨by rw [HFin.out]; rfl, HW.out⟩
set_option maxHeartbeats 6400000 in
set_option maxRecDepth 4000 in
theorem fewZ_any (A : Option Addr) (n c : Nat) (ks : List Int) (B : Option Addr) (m d : Nat) (xs : List XX) (w : World) (hks : ks.length = n) (bks : n ≤ maxLen) (hxs : xs.length = m) (bxs : m ≤ maxLen) (hR : RdX w B xs) :
    Calls Try.prog 13 #[tv A n c B m d] w fun e w' => e = .returned (.bool (fewZ ks xs)) ∧ Below w.heap.size w w' := by
  have HW := Lib.hid ((Fut.refl w).alloc (.cells #[.slice A n c, .slice B m d] 31))
  have q0 : (w.alloc (.cells #[.slice A n c, .slice B m d] 31)).cell? ⟨w.heap.size, 0, none⟩ = some (.slice A n c) := by (repeat (first | exact (cell_al_new _ _ _ _ _ _ (by first | rfl | (simp only [World.size_alloc]))).trans rfl | refine (cell_al_old _ _ _ (by first | omega | (simp only [World.size_alloc]; omega))).trans ?_))
  have q1 : (w.alloc (.cells #[.slice A n c, .slice B m d] 31)).cell? ⟨w.heap.size, 1, none⟩ = some (.slice B m d) := by (repeat (first | exact (cell_al_new _ _ _ _ _ _ (by first | rfl | (simp only [World.size_alloc]))).trans rfl | refine (cell_al_old _ _ _ (by first | omega | (simp only [World.size_alloc]; omega))).trans ?_))
  have Kks : n ≤ 9223372036854775807 := bks
  have Lks := Lib.hid hks
  have Kxs : m ≤ 9223372036854775807 := bxs
  have Lxs := Lib.hid hxs
  have R := Lib.hid (hR.fut HW.out)
  clear hR bks hks bxs hxs
  by_cases hg : n ≤ 70 ∧ m ≤ 70
  · obtain ⟨g0, g1⟩ := hg
    have HG := Lib.hid (show ∀ b, xs.all (fun c => decide (c.l.length ≤ 10)) = b → fewZ ks xs = b from fun b hb => by
      have v0 : ks.length ≤ 70 := by rw [Lks.out]; exact g0
      have v1 : xs.length ≤ 70 := by rw [Lxs.out]; exact g1
      rw [fewZ, hb]
      simp only [v0, v1, decide_true, Bool.true_and])
    have z0 : ((70 : Int) < (n : Int)) = False := eq_false (by omega)
    have z1 : ((70 : Int) < (m : Int)) = False := eq_false (by omega)
    go_enter Try.func13, Try.ntmps13
    go_wp2_with fail
    generalize w.alloc (.cells #[.slice A n c, .slice B m d] 31) = wb at *
    go_loopw [3] (fun i wr => ∃ j : Nat, j ≤ m ∧ i = .int .i64 j ∧ Hid ((xs.take j).all (fun c => decide (c.l.length ≤ 10)) = true) ∧ wr = wb) (fun i _ => m - (intOf i).toNat)
    case atStart => exact ⟨0, Nat.zero_le _, rfl, Lib.hid (by simp), rfl⟩
    case round =>
      obtain ⟨j, hj, rfl, hall, rfl⟩ := hrel
      by_cases hlt : j < m
      · obtain ⟨x, hx⟩ := get_lt Lxs.out hlt
        obtain ⟨b, o, rfl, hc⟩ := R.out.1 j x hx
        have hc1 := hc 0 _ (by decide) rfl
        try simp only [Nat.mul_one, Nat.add_zero] at hc1
        have hxl := (R.out.2 x (List.mem_of_getElem? hx)).2
        have hxl' : x.l.length ≤ 9223372036854775807 := hxl
        have HX := Lib.hid hx
        clear hx hc hxl
        by_cases hs : x.l.length ≤ 10
        · have HT := Lib.hid (take_all (p := fun c => decide (c.l.length ≤ 10)) hall.out HX.out (decide_eq_true hs))
          have hs2 : ((10 : Int) < (x.l.length : Int)) = False := eq_false (by omega)
          clear hs
          go_wp2_with fail
          exact ⟨⟨j + 1, by omega, by go_num, HT, by first | rfl | trivial⟩, by simp [intOf]; omega⟩
        · have HFin := Lib.hid (HG.out false (all_not HX.out (decide_eq_false hs)))
          have hs2 : ((10 : Int) < (x.l.length : Int)) = True := eq_true (by omega)
          clear hs
          go_wp2_with fail
          go_ret
          exact ⟨by rw [HFin.out]; rfl, HW.out⟩
      · have HFin := Lib.hid (HG.out true (all_take hall.out (by have := Lxs.out; omega)))
        go_wp2_with fail
        go_ret
        exact ⟨by rw [HFin.out]; rfl, HW.out⟩
  · have HFin := Lib.hid (show fewZ ks xs = false from by
      refine bnot fun h => hg ?_
      simp only [fewZ, Bool.and_eq_true, decide_eq_true_eq] at h
      have := Lks.out
      have := Lxs.out
      omega)
    have hor : (70 < n) ∨ (¬ 70 < n ∧ 70 < m) := by omega
    clear hg
    rcases hor with g0 | ⟨g0, g1⟩
    all_goals
      try (first | (have z0 : ((70 : Int) < (n : Int)) = True := eq_true (by omega)) | (have z0 : ((70 : Int) < (n : Int)) = False := eq_false (by omega)))
      try (first | (have z1 : ((70 : Int) < (m : Int)) = True := eq_true (by omega)) | (have z1 : ((70 : Int) < (m : Int)) = False := eq_false (by omega)))
      go_enter Try.func13, Try.ntmps13
      go_wp2_with fail
      go_ret
      exact ⟨by rw [HFin.out]; rfl, HW.out⟩
end Go.Proofs.Ytagmpbgidooibaa
