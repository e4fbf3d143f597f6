/-
  The law of replacement as recomputation, walked: it returns true and turns nothing that was there.
-/
import Derived.Test.YtagmpbgidooibaaC28
import Derived.Test.YtagmpbgidooibaaCs
namespace Go.Proofs.Ytagmpbgidooibaa
open Go.RowKit Go.Deep
attribute [local go_sem] Oper.lit Oper.litS fut_fut fut_drew World.cell?_alloc_some
attribute [local go_sem] fut_base_drew
theorem info_crow : (Try.prog.info? 54).map (fun i => (i.zero, i.size, i.bytes)) = some (some (.slice none 0 0), 1, 24) := by kernel_rfl
theorem cutA_none {A : Option Addr} {c k sz : Nat} (h : cutA A c k sz = none) : A = none := by
  unfold cutA at h
  split at h
  · exact h
  · cases A with
    | none => rfl
    | some a => cases h
theorem OfQ.opq {w' : World} {e : Ending} {A1 : Option Addr} {n1 c1 : Nat} {s : Int} {n : Nat} {E : Int} {K : List Key} {lo : Nat} (h : OfQ w' e A1 n1 c1 s n E K lo) : ∃ A n9 c B m d s9 r, e = .returned (.tuple #[iv A n9 c B m d s9, .int .i64 r]) := by
  by_cases hE : E = 0
  · obtain ⟨A, c, cols, g1, _⟩ := h.2 hE
    exact ⟨_, _, _, _, _, _, _, _, g1⟩
  · exact ⟨_, _, _, _, _, _, _, _, h.1 hE⟩
/-- numbers appended to a slice of the call's own -/
theorem wpo_append_ints {w : World} {o : Oper} {a : Act} {K : Act → World → Prop} {Q : Exit → Act → World → Prop} (s x : Operand) (ho : o.op = .call { callee := .builtin .append, args := #[s, x], argTypes := #[23, 23] })
    (base : Nat) (v : Value) (k : Nat) (xs : List Int) (hs : a.eval s = v) (hown : w.ownsRow base 3 1 v k (xs.map (Value.int .i64 ·))) (A : Option Addr) (n c : Nat) (l : List Int) (hx : a.eval x = .slice A n c) (hl : l.length = n) (hn : n ≤ 1000) (hkn : k ≤ 100000) (hnl : A = none → n = 0 ∧ c = 0) (hR : Rd1 w A (.int .i64 ·) l) (hb : base ≤ w.heap.size)
    (h : ∀ v' w', w'.ownsRow base 3 1 v' (k + n) ((xs ++ l).map (Value.int .i64 ·)) → w.grownBy w' v.ownBlock → K (a.put o.dst v') w') : o.wp Try.prog a w K Q := by
  obtain ⟨ti, ki, kz0, kz1, kz2⟩ := info_parts info_int
  cases A with
  | none =>
    obtain ⟨rfl, rfl⟩ := hnl rfl
    have : l = [] := List.length_eq_zero_iff.1 hl
    subst this
    have hrun := run_append_owned_none (P := Try.prog) (w := w) base 23 o.type 3 ti 1 Try.underlying23 ki v k _ hown
    unfold Oper.wp
    simp [execOp, ho, resolve, invoke, builtin, hs, hx, hrun, Result.andThen]
    exact h v w (by simpa using hown) ⟨rfl, rfl, rfl, Nat.le_refl _, fun _ _ _ => rfl⟩
  | some ad =>
    refine wp_append_own _ s x 23 ho base 3 ti (.int .i64 0) 1 8 Try.underlying23 ki kz0 kz1 kz2 rfl (by decide) v k _ hs hown ad n c (l.map (.int .i64 ·)) hx (by rw [List.length_map, hl, Nat.mul_one]) ?_ ?_ (by unfold maxLen; omega) (by omega) hb ?_
    · intro j u hu
      rw [List.getElem?_map] at hu
      obtain ⟨y, hy, rfl⟩ := Option.map_eq_some_iff.1 hu
      obtain ⟨b, o, e, hc⟩ := hR j y hy
      injection e with e
      subst e
      have e2 : (⟨b, o, none⟩ : Addr).add j = ⟨b, o + j, none⟩ := by unfold Addr.add; split <;> simp_all
      rw [e2]; exact hc
    · intro u hu
      obtain ⟨y, _, rfl⟩ := List.mem_map.1 hu
      rfl
    · intro v' w' h1 h2 _
      refine h v' w' ?_ h2
      rw [List.map_append]
      exact h1
/-- rows of confusions appended to a slice of the call's own -/
theorem wpo_append_rows {w : World} {o : Oper} {a : Act} {K : Act → World → Prop} {Q : Exit → Act → World → Prop} (s x : Operand) (ho : o.op = .call { callee := .builtin .append, args := #[s, x], argTypes := #[29, 29] })
    (base : Nat) (v : Value) (k : Nat) (xs : List XX) (hs : a.eval s = v) (hown : w.ownsRow base 54 1 v k (xs.flatMap encX)) (A : Option Addr) (n c : Nat) (l : List XX) (hx : a.eval x = .slice A n c) (hl : l.length = n) (hn : n ≤ 1000) (hkn : k ≤ 100000) (hnl : A = none → n = 0 ∧ c = 0) (hR : RdS w A 1 encX l) (hb : base ≤ w.heap.size)
    (h : ∀ v' w', w'.ownsRow base 54 1 v' (k + n) ((xs ++ l).flatMap encX) → w.grownBy w' v.ownBlock → K (a.put o.dst v') w') : o.wp Try.prog a w K Q := by
  obtain ⟨ti, ki, kz0, kz1, kz2⟩ := info_parts info_crow
  cases A with
  | none =>
    obtain ⟨rfl, rfl⟩ := hnl rfl
    have : l = [] := List.length_eq_zero_iff.1 hl
    subst this
    have hrun := run_append_owned_none (P := Try.prog) (w := w) base 29 o.type 54 ti 1 Try.underlying29 ki v k _ hown
    unfold Oper.wp
    simp [execOp, ho, resolve, invoke, builtin, hs, hx, hrun, Result.andThen]
    exact h v w (by simpa using hown) ⟨rfl, rfl, rfl, Nat.le_refl _, fun _ _ _ => rfl⟩
  | some ad =>
    refine wp_append_own _ s x 29 ho base 54 ti _ 1 24 Try.underlying29 ki kz0 kz1 kz2 rfl (by decide) v k _ hs hown ad n c (l.flatMap encX) hx (by rw [flat_len encX 1 (fun _ => rfl), hl]) ?_ ?_ (by unfold maxLen; omega) (by omega) hb ?_
    · intro j u hu
      obtain ⟨i, j2, e, rfl, hj2, hi, hu2⟩ := flat_inv encX 1 (fun _ => rfl) l j u hu
      obtain ⟨b, o, hA, hc⟩ := hR i e hi
      injection hA with hA
      subst hA
      have e2 : (⟨b, o, none⟩ : Addr).add (i * 1 + j2) = ⟨b, o + i * 1 + j2, none⟩ := by unfold Addr.add; split <;> simp_all <;> omega
      rw [e2]
      exact hc j2 u hj2 hu2
    · intro u hu
      obtain ⟨e, _, he⟩ := List.mem_flatMap.1 hu
      simp only [encX, List.mem_cons, List.not_mem_nil, or_false] at he
      subst he
      rfl
    · intro v' w' h1 h2 _
      refine h v' w' ?_ h2
      rw [List.flatMap_append]
      exact h1
set_option maxHeartbeats 12800000 in
set_option maxRecDepth 4000 in
theorem law_crecomp (Z : Option Addr) (n zc : Nat) (X : Option Addr) (m xc : Nat) (ks : List Int) (xs : List XX) (A1 : Option Addr) (n1 c1 : Nat) (A2 : Option Addr) (n2 c2 : Nat) (A3 : Option Addr) (n3 c3 : Nat) (s u a0 a1 a2 : Int) (ins del : List Int) (rep : List RR) (w : World)
    (hkl : ks.length = n) (hn : n ≤ maxLen) (hxl : xs.length = m) (hm : m ≤ maxLen) (h1 : ins.length = n1) (h2 : del.length = n2) (h3 : rep.length = n3) (b1 : n1 ≤ maxLen) (b2 : n2 ≤ maxLen) (b3 : n3 ≤ maxLen) (hnz : n ≤ zc) (hmx : m ≤ xc) (hzc : zc ≤ maxLen) (hxc : xc ≤ maxLen) (hv0 : 0 ≤ a0) (hv1 : a0 ≤ 255) (hv2 : 0 ≤ a1) (hv3 : a1 ≤ 255) (hzn : Z = none → n = 0 ∧ zc = 0) (hxn : X = none → m = 0 ∧ xc = 0)
    (hZ : Rd1 w Z (.int .i64 ·) ks) (hX : RdX w X xs) (r1 : Rd1 w A1 (.int .i64 ·) ins) (r2 : Rd1 w A2 (.int .i64 ·) del) (r3 : RdR w A3 rep) :
    Calls Try.prog 7 #[tv Z n zc X m xc, pv A1 n1 c1 A2 n2 c2 A3 n3 c3 s u, .agg #[.int .u8 a0, .int .u8 a1, .int .u8 a2]] w fun e w' => e = .returned (.bool true) ∧ Below w.heap.size w w' := by
  have HW := Lib.hid (show Fut w (((w.alloc (.cells #[.slice Z n zc, .slice X m xc] 31)).alloc (.cells #[.slice A1 n1 c1, .slice A2 n2 c2, .slice A3 n3 c3, .int .i64 s, .int .i64 u] 34)).alloc (.cells #[.int .u8 a0, .int .u8 a1, .int .u8 a2] 48)) from (((Fut.refl w).alloc _).alloc _).alloc _)
  have q0 : ∀ dd os, (fut (((w.alloc (.cells #[.slice Z n zc, .slice X m xc] 31)).alloc (.cells #[.slice A1 n1 c1, .slice A2 n2 c2, .slice A3 n3 c3, .int .i64 s, .int .i64 u] 34)).alloc (.cells #[.int .u8 a0, .int .u8 a1, .int .u8 a2] 48)) dd os).cell? ⟨w.heap.size, 0, none⟩ = some (.slice Z n zc) := cell_fut (by (repeat (first | exact (cell_al_new _ _ _ _ _ _ (by first | rfl | (simp only [World.size_alloc]))).trans rfl | refine (cell_al_old _ _ _ (by first | omega | (simp only [World.size_alloc]; omega))).trans ?_)))
  have q1 : ∀ dd os, (fut (((w.alloc (.cells #[.slice Z n zc, .slice X m xc] 31)).alloc (.cells #[.slice A1 n1 c1, .slice A2 n2 c2, .slice A3 n3 c3, .int .i64 s, .int .i64 u] 34)).alloc (.cells #[.int .u8 a0, .int .u8 a1, .int .u8 a2] 48)) dd os).cell? ⟨w.heap.size, 1, none⟩ = some (.slice X m xc) := cell_fut (by (repeat (first | exact (cell_al_new _ _ _ _ _ _ (by first | rfl | (simp only [World.size_alloc]))).trans rfl | refine (cell_al_old _ _ _ (by first | omega | (simp only [World.size_alloc]; omega))).trans ?_)))
  have q2 : ∀ dd os, (fut (((w.alloc (.cells #[.slice Z n zc, .slice X m xc] 31)).alloc (.cells #[.slice A1 n1 c1, .slice A2 n2 c2, .slice A3 n3 c3, .int .i64 s, .int .i64 u] 34)).alloc (.cells #[.int .u8 a0, .int .u8 a1, .int .u8 a2] 48)) dd os).cell? ⟨w.heap.size + 1, 0, none⟩ = some (.slice A1 n1 c1) := cell_fut (by (repeat (first | exact (cell_al_new _ _ _ _ _ _ (by first | rfl | (simp only [World.size_alloc]))).trans rfl | refine (cell_al_old _ _ _ (by first | omega | (simp only [World.size_alloc]; omega))).trans ?_)))
  have q3 : ∀ dd os, (fut (((w.alloc (.cells #[.slice Z n zc, .slice X m xc] 31)).alloc (.cells #[.slice A1 n1 c1, .slice A2 n2 c2, .slice A3 n3 c3, .int .i64 s, .int .i64 u] 34)).alloc (.cells #[.int .u8 a0, .int .u8 a1, .int .u8 a2] 48)) dd os).cell? ⟨w.heap.size + 1, 1, none⟩ = some (.slice A2 n2 c2) := cell_fut (by (repeat (first | exact (cell_al_new _ _ _ _ _ _ (by first | rfl | (simp only [World.size_alloc]))).trans rfl | refine (cell_al_old _ _ _ (by first | omega | (simp only [World.size_alloc]; omega))).trans ?_)))
  have q4 : ∀ dd os, (fut (((w.alloc (.cells #[.slice Z n zc, .slice X m xc] 31)).alloc (.cells #[.slice A1 n1 c1, .slice A2 n2 c2, .slice A3 n3 c3, .int .i64 s, .int .i64 u] 34)).alloc (.cells #[.int .u8 a0, .int .u8 a1, .int .u8 a2] 48)) dd os).cell? ⟨w.heap.size + 1, 2, none⟩ = some (.slice A3 n3 c3) := cell_fut (by (repeat (first | exact (cell_al_new _ _ _ _ _ _ (by first | rfl | (simp only [World.size_alloc]))).trans rfl | refine (cell_al_old _ _ _ (by first | omega | (simp only [World.size_alloc]; omega))).trans ?_)))
  have q5 : ∀ dd os, (fut (((w.alloc (.cells #[.slice Z n zc, .slice X m xc] 31)).alloc (.cells #[.slice A1 n1 c1, .slice A2 n2 c2, .slice A3 n3 c3, .int .i64 s, .int .i64 u] 34)).alloc (.cells #[.int .u8 a0, .int .u8 a1, .int .u8 a2] 48)) dd os).cell? ⟨w.heap.size + 1, 3, none⟩ = some (.int .i64 s) := cell_fut (by (repeat (first | exact (cell_al_new _ _ _ _ _ _ (by first | rfl | (simp only [World.size_alloc]))).trans rfl | refine (cell_al_old _ _ _ (by first | omega | (simp only [World.size_alloc]; omega))).trans ?_)))
  have q6 : ∀ dd os, (fut (((w.alloc (.cells #[.slice Z n zc, .slice X m xc] 31)).alloc (.cells #[.slice A1 n1 c1, .slice A2 n2 c2, .slice A3 n3 c3, .int .i64 s, .int .i64 u] 34)).alloc (.cells #[.int .u8 a0, .int .u8 a1, .int .u8 a2] 48)) dd os).cell? ⟨w.heap.size + 1, 4, none⟩ = some (.int .i64 u) := cell_fut (by (repeat (first | exact (cell_al_new _ _ _ _ _ _ (by first | rfl | (simp only [World.size_alloc]))).trans rfl | refine (cell_al_old _ _ _ (by first | omega | (simp only [World.size_alloc]; omega))).trans ?_)))
  have q7 : ∀ dd os, (fut (((w.alloc (.cells #[.slice Z n zc, .slice X m xc] 31)).alloc (.cells #[.slice A1 n1 c1, .slice A2 n2 c2, .slice A3 n3 c3, .int .i64 s, .int .i64 u] 34)).alloc (.cells #[.int .u8 a0, .int .u8 a1, .int .u8 a2] 48)) dd os).cell? ⟨w.heap.size + 1 + 1, 0, none⟩ = some (.int .u8 a0) := cell_fut (by (repeat (first | exact (cell_al_new _ _ _ _ _ _ (by first | rfl | (simp only [World.size_alloc]))).trans rfl | refine (cell_al_old _ _ _ (by first | omega | (simp only [World.size_alloc]; omega))).trans ?_)))
  have q8 : ∀ dd os, (fut (((w.alloc (.cells #[.slice Z n zc, .slice X m xc] 31)).alloc (.cells #[.slice A1 n1 c1, .slice A2 n2 c2, .slice A3 n3 c3, .int .i64 s, .int .i64 u] 34)).alloc (.cells #[.int .u8 a0, .int .u8 a1, .int .u8 a2] 48)) dd os).cell? ⟨w.heap.size + 1 + 1, 1, none⟩ = some (.int .u8 a1) := cell_fut (by (repeat (first | exact (cell_al_new _ _ _ _ _ _ (by first | rfl | (simp only [World.size_alloc]))).trans rfl | refine (cell_al_old _ _ _ (by first | omega | (simp only [World.size_alloc]; omega))).trans ?_)))
  have HFZ := Lib.hid (fun w' h => fewZ_any Z n zc ks X m xc xs w' hkl hn hxl hm h)
  have HFP := Lib.hid (fun w' h => fewP_any A1 n1 c1 A2 n2 c2 A3 n3 c3 s u ins del rep w' h1 h2 h3 b1 b2 b3 h)
  have HZ := Lib.hid (hZ.fut HW.out)
  have HX := Lib.hid (hX.fut HW.out)
  have R1 := Lib.hid (r1.fut HW.out)
  have R2 := Lib.hid (r2.fut HW.out)
  have R3 := Lib.hid (r3.fut HW.out)
  have HLS := Lib.hid (And.intro hkl (And.intro hxl (And.intro h1 (And.intro h2 h3))))
  have HBS := Lib.hid (And.intro b2 (And.intro b3 (And.intro hnz (And.intro hmx (And.intro hzc (And.intro hxc (And.intro hzn hxn)))))))
  have kz : zc ≤ 9223372036854775807 := hzc
  have kx : xc ≤ 9223372036854775807 := hxc
  clear hkl hn hxl hm h1 h2 h3 b1 b2 b3 hZ hX r1 r2 r3 hnz hmx hzc hxc hzn hxn
  have e37 : ∀ z : Int, (z == z) = true := fun z => by simp
  have e38 : ∀ z : Int, (z != z) = false := fun z => by simp
  by_cases hz : fewZ ks xs = true
  · rw [hz] at HFZ
    by_cases hp : fewP ins del rep = true
    · rw [hp] at HFP
      obtain ⟨hzn, hzm⟩ := fewZ_len' hz
      obtain ⟨hp1, hp2, hp3⟩ := fewP_len' hp
      have HLS2 := HLS.out
      rw [HLS2.1] at hzn
      rw [HLS2.2.1] at hzm
      rw [HLS2.2.2.1] at hp1
      rw [HLS2.2.2.2.1] at hp2
      rw [HLS2.2.2.2.2] at hp3
      clear hz hp HLS2
      by_cases hmn : (m : Int) = (n : Int)
      · obtain ⟨m1, m2, m3⟩ := cmpF_yes hmn
        have HMN := Lib.hid (show m = n by omega)
        clear hmn m1
        by_cases h60 : 60 < n
        · go_enter Try.func7, Try.ntmps7
          go_wp2_with (first | (go_at_call 13; refine (HFZ.out _ HX.out).mono ?_; rintro e w1 ⟨rfl, hb1⟩; obtain ⟨dd, oo, rfl⟩ := fut_of hb1; clear hb1) | (go_at_call 14; refine (HFP.out _ (R3.out.fut (Fut.fut _ _ _))).mono ?_; rintro e w1 ⟨rfl, hb1⟩; obtain ⟨d2, o2, rfl⟩ := fut_of (Fut.trans (Fut.fut _ _ _) hb1); clear hb1) | (go_at_call 10; refine (awake_any _).mono ?_; rintro e w1 ⟨rfl, hb1⟩; have HB := Lib.hid hb1; clear hb1))
          go_ret
          exact ⟨rfl, HW.out.trans ((Fut.fut _ _ _).trans HB.out)⟩
        · obtain ⟨i, hi⟩ : ∃ k : Nat, Int.tmod a0 ((n : Int) + 1) = (k : Int) := Int.eq_ofNat_of_zero_le (Int.tmod_nonneg _ hv0)
          have hin : i ≤ n := by
            have := Int.tmod_lt_of_pos a0 (show (0 : Int) < (n : Int) + 1 by omega)
            omega
          obtain ⟨t, ht⟩ : ∃ k : Nat, Int.tmod a1 ((n : Int) - (i : Int) + 1) = (k : Int) := Int.eq_ofNat_of_zero_le (Int.tmod_nonneg _ hv2)
          have htn : i + t ≤ n := by
            have := Int.tmod_lt_of_pos a1 (show (0 : Int) < (n : Int) - (i : Int) + 1 by omega)
            omega
          obtain ⟨k, hk9⟩ : ∃ k : Nat, (i : Int) + (t : Int) = (k : Int) := ⟨i + t, by omega⟩
          have hik : i ≤ k := by omega
          have hkn : k ≤ n := by omega
          clear htn
          have hn1 : ((n : Int) + 1 = 0) = False := eq_false (by omega)
          have hn2 : ((n : Int) + 1 == 0) = false := by simp; omega
          have hn3 : ((n : Int) - (i : Int) + 1 = 0) = False := eq_false (by omega)
          have hn4 : ((n : Int) - (i : Int) + 1 == 0) = false := by simp; omega
          go_enter Try.func7, Try.ntmps7
          go_wp2_with (first | (go_at_call 13; refine (HFZ.out _ HX.out).mono ?_; rintro e w1 ⟨rfl, hb1⟩; obtain ⟨dd, oo, rfl⟩ := fut_of hb1; clear hb1) | (go_at_call 14; refine (HFP.out _ (R3.out.fut (Fut.fut _ _ _))).mono ?_; rintro e w1 ⟨rfl, hb1⟩; obtain ⟨d2, o2, rfl⟩ := fut_of (Fut.trans (Fut.fut _ _ _) hb1); clear hb1))
          have HF5 := Lib.hid (Fut.fut (((w.alloc (.cells #[.slice Z n zc, .slice X m xc] 31)).alloc (.cells #[.slice A1 n1 c1, .slice A2 n2 c2, .slice A3 n3 c3, .int .i64 s, .int .i64 u] 34)).alloc (.cells #[.int .u8 a0, .int .u8 a1, .int .u8 a2] 48)) d2 o2)
          have kiz : i ≤ zc := by have := HBS.out.2.2.1; omega
          have kix : i ≤ xc := by have := HBS.out.2.2.2.1; have := HMN.out; omega
          have kkm : k ≤ m := by have := HMN.out; omega
          have HWB := HW
          generalize (((w.alloc (.cells #[.slice Z n zc, .slice X m xc] 31)).alloc (.cells #[.slice A1 n1 c1, .slice A2 n2 c2, .slice A3 n3 c3, .int .i64 s, .int .i64 u] 34)).alloc (.cells #[.int .u8 a0, .int .u8 a1, .int .u8 a2] 48)) = wb at *
          generalize fut wb d2 o2 = w5 at *
          obtain ⟨d9, o9, hw9⟩ := fut_of HF5.out
          have y0 := q0 d9 o9
          have y1 := q1 d9 o9
          have y2 := q2 d9 o9
          have y3 := q3 d9 o9
          have y4 := q4 d9 o9
          have y5 := q5 d9 o9
          have y6 := q6 d9 o9
          have y7 := q7 d9 o9
          have y8 := q8 d9 o9
          rw [← hw9] at y0 y1 y2 y3 y4 y5 y6 y7 y8
          clear hw9
          obtain ⟨S, hS⟩ : ∃ S : Nat → Bool, S = fun q => decide (w5.heap.size ≤ q) := ⟨_, rfl⟩
          have hSl : ∀ q, q < w5.heap.size → S q = false := fun q hq => by rw [hS]; exact decide_eq_false (by omega)
          have hSo : ∀ q, w5.heap.size ≤ q → S q = true := fun q hq => by rw [hS]; exact decide_eq_true hq
          clear hS
          have x0 := cell_futS y0 (hSl _ (World.block_lt_of_cell? _ _ y0))
          have x1 := cell_futS y1 (hSl _ (World.block_lt_of_cell? _ _ y1))
          have x2 := cell_futS y2 (hSl _ (World.block_lt_of_cell? _ _ y2))
          have x3 := cell_futS y3 (hSl _ (World.block_lt_of_cell? _ _ y3))
          have x4 := cell_futS y4 (hSl _ (World.block_lt_of_cell? _ _ y4))
          have x5 := cell_futS y5 (hSl _ (World.block_lt_of_cell? _ _ y5))
          have x6 := cell_futS y6 (hSl _ (World.block_lt_of_cell? _ _ y6))
          have x7 := cell_futS y7 (hSl _ (World.block_lt_of_cell? _ _ y7))
          have x8 := cell_futS y8 (hSl _ (World.block_lt_of_cell? _ _ y8))
          go_wp2_with fail
          refine wp_region_MG (relS S) o_emendatelaw35_ColumnsReplaceIsRecomputation_6 (by kernel_rfl) (by kernel_rfl) (by intro c a d v w h; cases d <;> exact h) ?_; unfold o_emendatelaw35_ColumnsReplaceIsRecomputation_6
          iterate 8 (refine wpS_h rfl rfl (fun K hK => ?_); go_simp; refine hK _ _ ?_; clear hK K)
          generalize hZC : (if zc = k then Z else Option.map (fun x => x.add k) Z) = ZC
          have HZC := Lib.hid (show cutA Z zc k 1 = ZC from by rw [← hZC]; simp [cutA])
          clear hZC
          refine wpG_o rfl rfl (fun K hK => ?_)
          go_simp
          go_at_K
          refine hK _ _ (.inr ((relS S).of_fut ((Fut.refl _).alloc _))) ?_
          clear hK K
          have hm0 : (w5.alloc (.cells #[] 3)).drew.ownsRow w5.heap.size 3 1 (.slice (some ⟨w5.heap.size, 0, none⟩) 0 0) 0 ([].map (Value.int .i64 ·)) := made_empty w5
          have fo0 : Fut w5 (w5.alloc (.cells #[] 3)).drew := ((Fut.refl w5).alloc _).drew
          refine wpG_o rfl rfl (fun K hK => ?_)
          refine wpo_append_ints (.tmp 65) (.tmp 69) rfl w5.heap.size _ 0 [] rfl hm0 Z i zc (ks.take i) rfl (by have := HLS.out.1; simp; omega) (by omega) (by omega) (fun e9 => by have := HBS.out.2.2.2.2.2.2.1 e9; omega) (((HZ.out.fut HF5.out).fut fo0).cutTop i) fo0.size ?_
          intro v5 w6 hn5 hg5
          refine hK _ _ (.inr (futS_own hm0 hg5 hSo)) ?_
          clear hK K
          have fo5 : Fut w5 w6 := Below.grown fo0 hg5 fo0.size (fun q hq => (World.ownsRow.lt hm0 q hq).1)
          refine wpG_o rfl rfl (fun K hK => ?_)
          refine wpo_append_ints (.tmp 70) (.tmp 74) rfl w5.heap.size v5 _ _ rfl hn5 ZC (n - k) (zc - k) (ks.drop k) rfl (by have := HLS.out.1; simp; omega) (by omega) (by omega) (fun e9 => by have := HBS.out.2.2.2.2.2.2.1 (cutA_none (HZC.out.trans e9)); omega) (by rw [← HZC.out]; exact ((HZ.out.fut HF5.out).fut fo5).cutLow (by have := HLS.out.1; have := HBS.out.2.2.1; omega) k) fo5.size ?_
          intro v6 w7 hn6 hg6
          refine hK _ _ (.inr (futS_own hn5 hg6 hSo)) ?_
          clear hK K
          have HF7 := Lib.hid (show Fut w5 w7 from Below.grown fo5 hg6 fo5.size (fun q hq => (World.ownsRow.lt hn5 q hq).1))
          rw [Nat.zero_add, List.nil_append] at hn6
          have hv6 : ∃ KA kc, v6 = .slice KA (i + (n - k)) kc := by
            rcases hn6.2 with ⟨h, h0⟩ | ⟨g, cap, cur, h, _⟩
            · exact ⟨none, 0, by rw [h, h0]⟩
            · exact ⟨_, _, h⟩
          obtain ⟨KA, kc, rfl⟩ := hv6
          have HKO := Lib.hid (show Rd1 w7 KA (.int .i64 ·) (ks.take i ++ ks.drop k) from Rd1.of_own hn6)
          clear hm0 hn5 hn6 hg5 hg6 fo0 fo5
          clear x0 y0 x1 y1 x2 y2 x3 y3 x4 y4 x5 y5 x6 y6 x7 y7 x8 y8 hSl hSo
          (refine wpS_h rfl rfl (fun K hK => ?_); go_simp; refine hK _ _ ?_; clear hK K)
          refine wpG_nil ?_
          obtain ⟨d9, o9, hw9⟩ := fut_of (HF5.out.trans HF7.out)
          have y0 := q0 d9 o9
          have y1 := q1 d9 o9
          have y2 := q2 d9 o9
          have y3 := q3 d9 o9
          have y4 := q4 d9 o9
          have y5 := q5 d9 o9
          have y6 := q6 d9 o9
          have y7 := q7 d9 o9
          have y8 := q8 d9 o9
          rw [← hw9] at y0 y1 y2 y3 y4 y5 y6 y7 y8
          clear hw9
          obtain ⟨S, hS⟩ : ∃ S : Nat → Bool, S = fun q => decide (w7.heap.size ≤ q) := ⟨_, rfl⟩
          have hSl : ∀ q, q < w7.heap.size → S q = false := fun q hq => by rw [hS]; exact decide_eq_false (by omega)
          have hSo : ∀ q, w7.heap.size ≤ q → S q = true := fun q hq => by rw [hS]; exact decide_eq_true hq
          clear hS
          have x0 := cell_futS y0 (hSl _ (World.block_lt_of_cell? _ _ y0))
          have x1 := cell_futS y1 (hSl _ (World.block_lt_of_cell? _ _ y1))
          have x2 := cell_futS y2 (hSl _ (World.block_lt_of_cell? _ _ y2))
          have x3 := cell_futS y3 (hSl _ (World.block_lt_of_cell? _ _ y3))
          have x4 := cell_futS y4 (hSl _ (World.block_lt_of_cell? _ _ y4))
          have x5 := cell_futS y5 (hSl _ (World.block_lt_of_cell? _ _ y5))
          have x6 := cell_futS y6 (hSl _ (World.block_lt_of_cell? _ _ y6))
          have x7 := cell_futS y7 (hSl _ (World.block_lt_of_cell? _ _ y7))
          have x8 := cell_futS y8 (hSl _ (World.block_lt_of_cell? _ _ y8))
          go_wp2_with fail
          refine wp_region_MG (relS S) o_emendatelaw35_ColumnsReplaceIsRecomputation_7 (by kernel_rfl) (by kernel_rfl) (by intro c a d v w h; cases d <;> exact h) ?_; unfold o_emendatelaw35_ColumnsReplaceIsRecomputation_7
          iterate 8 (refine wpS_h rfl rfl (fun K hK => ?_); go_simp; refine hK _ _ ?_; clear hK K)
          generalize hXC : (if xc = k then X else Option.map (fun x => x.add k) X) = XC
          have HXC := Lib.hid (show cutA X xc k 1 = XC from by rw [← hXC]; simp [cutA])
          clear hXC
          refine wpG_o rfl rfl (fun K hK => ?_)
          go_simp
          go_at_K
          refine hK _ _ (.inr ((relS S).of_fut ((Fut.refl _).alloc _))) ?_
          clear hK K
          have hm0 : (w7.alloc (.cells #[] 54)).drew.ownsRow w7.heap.size 54 1 (.slice (some ⟨w7.heap.size, 0, none⟩) 0 0) 0 (([] : List XX).flatMap encX) := World.ownsRow_made w7 #[] 0 (Nat.le_refl _) (Nat.zero_le _) (by simp)
          have fo0 : Fut w7 (w7.alloc (.cells #[] 54)).drew := ((Fut.refl w7).alloc _).drew
          refine wpG_o rfl rfl (fun K hK => ?_)
          refine wpo_append_rows (.tmp 76) (.tmp 80) rfl w7.heap.size _ 0 [] rfl hm0 X i xc (xs.take i) rfl (by have := HLS.out.2.1; simp; omega) (by omega) (by omega) (fun e9 => by have := HBS.out.2.2.2.2.2.2.2 e9; omega) ((((HX.out.fut (HF5.out.trans HF7.out)).fut fo0).cutTop i).1) fo0.size ?_
          intro v5 w8 hn5 hg5
          refine hK _ _ (.inr (futS_own hm0 hg5 hSo)) ?_
          clear hK K
          have fo5 : Fut w7 w8 := Below.grown fo0 hg5 fo0.size (fun q hq => (World.ownsRow.lt hm0 q hq).1)
          refine wpG_o rfl rfl (fun K hK => ?_)
          refine wpo_append_rows (.tmp 81) (.tmp 85) rfl w7.heap.size v5 _ _ rfl hn5 XC (m - k) (xc - k) (xs.drop k) rfl (by have := HLS.out.2.1; simp; omega) (by omega) (by omega) (fun e9 => by have := HBS.out.2.2.2.2.2.2.2 (cutA_none (HXC.out.trans e9)); omega) (by rw [← HXC.out]; exact (((HX.out.fut (HF5.out.trans HF7.out)).fut fo5).cutLow (by have := HLS.out.2.1; have := HBS.out.2.2.2.1; omega) k).1) fo5.size ?_
          intro v6 w9 hn6 hg6
          refine hK _ _ (.inr (futS_own hn5 hg6 hSo)) ?_
          clear hK K
          have HF9 := Lib.hid (show Fut w7 w9 from Below.grown fo5 hg6 fo5.size (fun q hq => (World.ownsRow.lt hn5 q hq).1))
          rw [show 0 + i + (m - k) = i + (n - k) by have := HMN.out; omega, List.nil_append] at hn6
          have hv6 : ∃ XA xk, v6 = .slice XA (i + (n - k)) xk := by
            rcases hn6.2 with ⟨h, h0⟩ | ⟨g, cap, cur, h, _⟩
            · exact ⟨none, 0, by rw [h, h0]⟩
            · exact ⟨_, _, h⟩
          obtain ⟨XA, xk, rfl⟩ := hv6
          have HXO := Lib.hid (show RdX w9 XA (xs.take i ++ xs.drop k) from by
            refine ⟨RdS.of_own (enc := encX) (fun _ => rfl) (by decide) (by
              have hq9 : (xs.take i ++ xs.drop k).length = i + (n - k) := by have := HLS.out.2.1; have := HMN.out; simp only [List.length_append, List.length_take, List.length_drop]; omega
              exact hn6), fun e he => ?_⟩
            have hx9 := (HX.out.fut ((HF5.out.trans HF7.out).trans HF9.out)).2
            rcases List.mem_append.1 he with he | he
            · exact hx9 e (List.mem_of_mem_take he)
            · exact hx9 e (List.mem_of_mem_drop he))
          clear hm0 hn5 hn6 hg5 hg6 fo0 fo5
          clear x0 y0 x1 y1 x2 y2 x3 y3 x4 y4 x5 y5 x6 y6 x7 y7 x8 y8 hSl hSo
          (refine wpS_h rfl rfl (fun K hK => ?_); go_simp; refine hK _ _ ?_; clear hK K)
          refine wpG_nil ?_
          obtain ⟨d9, o9, hw9⟩ := fut_of ((HF5.out.trans HF7.out).trans HF9.out)
          subst hw9
          have HKO9 := Lib.hid (HKO.out.fut HF9.out)
          have HF := Lib.hid (Fut.fut wb d9 o9)
          have HOA := Lib.hid (fun w' b1 b2 b3 b4 b5 => of_anyq Z n zc ks X m xc xs A1 n1 c1 A2 n2 c2 A3 n3 c3 s u ins del rep w' HLS.out.1 (by omega) HLS.out.2.1 (by unfold maxLen; omega) HLS.out.2.2.1 HLS.out.2.2.2.1 HLS.out.2.2.2.2 (by omega) HBS.out.1 HBS.out.2.1 b1 b2 b3 b4 b5)
          have HOO := Lib.hid (fun w' b1 b2 b3 b4 b5 => of_anyq KA (i + (n - k)) kc (ks.take i ++ ks.drop k) XA (i + (n - k)) xk (xs.take i ++ xs.drop k) A1 n1 c1 A2 n2 c2 A3 n3 c3 s u ins del rep w' (by have := HLS.out.1; simp only [List.length_append, List.length_take, List.length_drop]; omega) (by omega) (by have := HLS.out.2.1; have := HMN.out; simp only [List.length_append, List.length_take, List.length_drop]; omega) (by unfold maxLen; omega) HLS.out.2.2.1 HLS.out.2.2.2.1 HLS.out.2.2.2.2 (by omega) HBS.out.1 HBS.out.2.1 b1 b2 b3 b4 b5)
          clear HKO HF5 HF7
          by_cases hE : ofE ks xs ins del rep s u = 0
          · have HE := Lib.hid hE
            clear hE
            have HEO := Lib.hid (of_old HE.out (by rw [HLS.out.1, HLS.out.2.1, HMN.out]) hik (by rw [HLS.out.1]; exact hkn))
            go_wp2_with fail
            refine (HOA.out _ (HZ.out.fut HF.out) (HX.out.fut HF.out) (R1.out.fut HF.out) (R2.out.fut HF.out) (R3.out.fut HF.out)).mono ?_
            rintro e w10 ⟨hr, hb⟩
            obtain ⟨A, c, cols, rfl, hkey, hrd, _, _, hA, hcap1, hcap2⟩ := hr.2 HE.out
            have HKA := Lib.hid hkey
            have HNA := Lib.hid (And.intro hA (And.intro hcap1 hcap2))
            have f10 : Fut (fut wb d9 o9) w10 := hb
            obtain ⟨d3, o3, rfl⟩ := fut_of (show Fut wb w10 from HF.out.trans f10)
            have HA3 := Lib.hid (show Fut wb ((fut wb d3 o3).alloc (.cells #[.slice A n c, .slice A1 n1 c1, .int .i64 s] 25)) from (Fut.fut _ _ _).alloc _)
            have HRA := Lib.hid (hrd.fut ((Fut.refl (fut wb d3 o3)).alloc (.cells #[.slice A n c, .slice A1 n1 c1, .int .i64 s] 25)))
            have HIA := Lib.hid (show CelI ((fut wb d3 o3).alloc (.cells #[.slice A n c, .slice A1 n1 c1, .int .i64 s] 25)) (fut wb d3 o3).heap.size (.slice A n c) (.slice A1 n1 c1) (.int .i64 s) from heap_new' _ _ _ rfl)
            have HK3 := Lib.hid (HKO9.out.fut (f10.trans ((Fut.refl (fut wb d3 o3)).alloc (.cells #[.slice A n c, .slice A1 n1 c1, .int .i64 s] 25))))
            have HX3 := Lib.hid (HXO.out.fut (f10.trans ((Fut.refl (fut wb d3 o3)).alloc (.cells #[.slice A n c, .slice A1 n1 c1, .int .i64 s] 25))))
            clear hr hb hkey hrd hA hcap1 hcap2 f10 HKO9 HXO HF HF9 HOA
            go_wp2_with fail
            refine (HOO.out _ HK3.out HX3.out (R1.out.fut HA3.out) (R2.out.fut HA3.out) (R3.out.fut HA3.out)).mono ?_
            rintro e w11 ⟨hr, hb⟩
            obtain ⟨oA, oc, ocols, rfl, hkey, hrd, _, _, hA, hcap1, hcap2⟩ := hr.2 HEO.out
            have HKO := Lib.hid hkey
            have HNO := Lib.hid (And.intro hA (And.intro hcap1 hcap2))
            have f11 : Fut ((fut wb d3 o3).alloc (.cells #[.slice A n c, .slice A1 n1 c1, .int .i64 s] 25)) w11 := hb
            obtain ⟨d4, o4, rfl⟩ := fut_of (show Fut wb w11 from HA3.out.trans f11)
            have HA4 := Lib.hid (show Fut wb ((fut wb d4 o4).alloc (.cells #[.slice oA (i + (n - k)) oc, .slice A1 n1 c1, .int .i64 s] 25)) from (Fut.fut _ _ _).alloc _)
            have HRO := Lib.hid (hrd.fut ((Fut.refl (fut wb d4 o4)).alloc (.cells #[.slice oA (i + (n - k)) oc, .slice A1 n1 c1, .int .i64 s] 25)))
            have HIO := Lib.hid (show CelI ((fut wb d4 o4).alloc (.cells #[.slice oA (i + (n - k)) oc, .slice A1 n1 c1, .int .i64 s] 25)) (fut wb d4 o4).heap.size (.slice oA (i + (n - k)) oc) (.slice A1 n1 c1) (.int .i64 s) from heap_new' _ _ _ rfl)
            have HRA4 := Lib.hid (HRA.out.fut (f11.trans ((Fut.refl (fut wb d4 o4)).alloc (.cells #[.slice oA (i + (n - k)) oc, .slice A1 n1 c1, .int .i64 s] 25))))
            have HIA4 := Lib.hid (HIA.out.fut (f11.trans ((Fut.refl (fut wb d4 o4)).alloc (.cells #[.slice oA (i + (n - k)) oc, .slice A1 n1 c1, .int .i64 s] 25))))
            clear hr hb hkey hrd hA hcap1 hcap2 f11 HK3 HX3 HA3 HRA HIA HOO
            go_wp2_with fail
            generalize (fut wb d4 o4).alloc (.cells #[.slice oA (i + (n - k)) oc, .slice A1 n1 c1, .int .i64 s] 25) = w13 at *
            generalize hwn : (fut wb d3 o3).heap.size = ba at *
            clear hwn
            generalize hwn : (fut wb d4 o4).heap.size = bo at *
            clear hwn
            obtain ⟨HRA, HIA⟩ := And.intro HRA4 HIA4
            clear HRA4 HIA4
            obtain ⟨d9, o9, hw9⟩ := fut_of HA4.out
            have y0 := q0 d9 o9
            have y1 := q1 d9 o9
            have y2 := q2 d9 o9
            have y3 := q3 d9 o9
            have y4 := q4 d9 o9
            have y5 := q5 d9 o9
            have y6 := q6 d9 o9
            have y7 := q7 d9 o9
            have y8 := q8 d9 o9
            rw [← hw9] at y0 y1 y2 y3 y4 y5 y6 y7 y8
            clear hw9
            obtain ⟨S, hS⟩ : ∃ S : Nat → Bool, S = fun q => decide (w13.heap.size ≤ q) := ⟨_, rfl⟩
            have hSl : ∀ q, q < w13.heap.size → S q = false := fun q hq => by rw [hS]; exact decide_eq_false (by omega)
            have hSo : ∀ q, w13.heap.size ≤ q → S q = true := fun q hq => by rw [hS]; exact decide_eq_true hq
            clear hS
            have x0 := cell_futS y0 (hSl _ (World.block_lt_of_cell? _ _ y0))
            have x1 := cell_futS y1 (hSl _ (World.block_lt_of_cell? _ _ y1))
            have x2 := cell_futS y2 (hSl _ (World.block_lt_of_cell? _ _ y2))
            have x3 := cell_futS y3 (hSl _ (World.block_lt_of_cell? _ _ y3))
            have x4 := cell_futS y4 (hSl _ (World.block_lt_of_cell? _ _ y4))
            have x5 := cell_futS y5 (hSl _ (World.block_lt_of_cell? _ _ y5))
            have x6 := cell_futS y6 (hSl _ (World.block_lt_of_cell? _ _ y6))
            have x7 := cell_futS y7 (hSl _ (World.block_lt_of_cell? _ _ y7))
            have x8 := cell_futS y8 (hSl _ (World.block_lt_of_cell? _ _ y8))
            have kkz : k ≤ zc := by have := HBS.out.2.2.1; omega
            have kkx : k ≤ xc := by have := HBS.out.2.2.2.1; have := HMN.out; omega
            go_wp2_with fail
            refine wp_region_MG (relS S) o_emendatelaw35_ColumnsReplaceIsRecomputation_10 (by kernel_rfl) (by kernel_rfl) (by intro c a d v w h; cases d <;> exact h) ?_; unfold o_emendatelaw35_ColumnsReplaceIsRecomputation_10
            iterate 11 (refine wpS_h rfl rfl (fun K hK => ?_); go_simp; refine hK _ _ ?_; clear hK K)
            generalize hZI : (if zc = i then Z else Option.map (fun x => x.add i) Z) = ZI
            generalize hXI : (if xc = i then X else Option.map (fun x => x.add i) X) = XI
            have HZI := Lib.hid (show cutA Z zc i 1 = ZI from by rw [← hZI]; simp [cutA])
            have HXI := Lib.hid (show cutA X xc i 1 = XI from by rw [← hXI]; simp [cutA])
            clear hZI hXI
            have HOM := Lib.hid (fun w' (a1 : Rd1 w' Z (.int .i64 ·) ks) (a2 : RdX w' X xs) a3 a4 a5 => of_anyq ZI (k - i) (zc - i) ((ks.take k).drop i) XI (k - i) (xc - i) ((xs.take k).drop i) A1 n1 c1 A2 n2 c2 A3 n3 c3 s u ins del rep w' (by have := HLS.out.1; simp; omega) (by omega) (by have := HLS.out.2.1; have := HMN.out; simp; omega) (by unfold maxLen; omega) HLS.out.2.2.1 HLS.out.2.2.2.1 HLS.out.2.2.2.2 (by omega) HBS.out.1 HBS.out.2.1 (by rw [← HZI.out]; exact Rd1.cutLow (Rd1.cutTop a1 k) (by have := HLS.out.1; have := HBS.out.2.2.1; simp; omega) i) (by rw [← HXI.out]; exact RdX.cutLow (RdX.cutTop a2 k) (by have := HLS.out.2.1; have := HBS.out.2.2.2.1; simp; omega) i) a3 a4 a5)
            have HEM := Lib.hid (of_mid HE.out (by rw [HLS.out.1, HLS.out.2.1, HMN.out]) i k)
            refine wpG_two rfl rfl (fun K hK => ?_) (fun K hK => ?_)
            · go_simp
              go_at_call 15
              refine (HOM.out _ (HZ.out.fut ((HA4.out).trans (Fut.refl w13).drew)) (HX.out.fut ((HA4.out).trans (Fut.refl w13).drew)) (R1.out.fut ((HA4.out).trans (Fut.refl w13).drew)) (R2.out.fut ((HA4.out).trans (Fut.refl w13).drew)) (R3.out.fut ((HA4.out).trans (Fut.refl w13).drew))).mono ?_
              rintro e wp ⟨hr, hb⟩
              obtain ⟨pA, pc, pcols, rfl, hkey, hrd, hlo1, hlo2, hcut, hcap1, hcap2⟩ := hr.2 HEM.out
              refine hK _ _ (.inr ((relS S).of_fut hb)) ?_
              clear hK K
              have HKp := Lib.hid hkey
              have HNp := Lib.hid (show pA = none → (k - i) = 0 ∧ pc = 0 from fun e9 => by
                rcases hcut with h9 | ⟨b9, o9, h9⟩
                · exact h9
                · rw [e9] at h9; cases h9)
              clear hcut hcap1 hcap2
              have hG : Fut w13 (wp.alloc (.cells #[.slice none 0 0, .slice none 0 0, .int .i64 0] 25)) := ((Fut.refl w13).drew.trans hb).alloc _
              iterate 3 (refine wpS_h rfl rfl (fun K hK => ?_); go_simp; refine hK _ _ ?_; clear hK K)
              refine wpG_o rfl rfl (fun K hK => ?_)
              go_simp
              refine hK _ _ (.inr ((relS S).of_fut ((Fut.refl _).alloc _))) ?_
              clear hK K
              obtain ⟨bp, hbb⟩ : ∃ q, q = wp.heap.size := ⟨_, rfl⟩
              rw [← hbb]
              have HCp := Lib.hid (show CelI (wp.alloc (.cells #[.slice none 0 0, .slice none 0 0, .int .i64 0] 25)) bp (.slice none 0 0) (.slice none 0 0) (.int .i64 0) from heap_new' _ _ _ hbb)
              have HBp := Lib.hid (show w13.heap.size ≤ bp from by rw [hbb]; exact ((Fut.refl w13).drew.trans hb).size)
              have HGp := Lib.hid hG
              have HDp := Lib.hid hrd
              have HLp := Lib.hid (And.intro (show Fut wp (wp.alloc (.cells #[.slice none 0 0, .slice none 0 0, .int .i64 0] 25)) from (Fut.refl wp).alloc _) (show wp.heap.size ≤ bp from by omega))
              clear hkey hrd hlo1 hlo2
              clear hr hb hG hbb
              generalize wp.alloc (.cells #[.slice none 0 0, .slice none 0 0, .int .i64 0] 25) = wsp at *
              refine wpG_o rfl rfl (fun K hK => ?_)
              have z0 := HCp.out.c0
              have z1 := HCp.out.c1
              have z2 := HCp.out.c2
              have z3 := HCp.out.fz 0
              have z4 := HCp.out.fz 1
              have z5 := HCp.out.fz 2
              go_simp
              refine hK _ _ (.inr ((relS S).trans (futS_set _ _ _ (hSo _ HBp.out)) ((relS S).trans (futS_set _ _ _ (hSo _ HBp.out)) (futS_set _ _ _ (hSo _ HBp.out))))) ?_
              clear hK K z0 z1 z2 z3 z4 z5
              have HIp := Lib.hid (HCp.out.sets (.slice pA (k - i) pc) (.slice A1 n1 c1) (.int .i64 s))
              have HFp := Lib.hid (show Fut w13 (((wsp.setCell ⟨bp, 0, none⟩ (.slice pA (k - i) pc)).setCell ⟨bp, 1, none⟩ (.slice A1 n1 c1)).setCell ⟨bp, 2, none⟩ (.int .i64 s)) from sets_fut HGp.out HBp.out _ _ _)
              have HRp := Lib.hid (show RdC (((wsp.setCell ⟨bp, 0, none⟩ (.slice pA (k - i) pc)).setCell ⟨bp, 1, none⟩ (.slice A1 n1 c1)).setCell ⟨bp, 2, none⟩ (.int .i64 s)) pA pcols from HDp.out.fut (sets_fut HLp.out.1 HLp.out.2 _ _ _))
              generalize (((wsp.setCell ⟨bp, 0, none⟩ (.slice pA (k - i) pc)).setCell ⟨bp, 1, none⟩ (.slice A1 n1 c1)).setCell ⟨bp, 2, none⟩ (.int .i64 s)) = wzp at *
              clear HCp HGp HDp HLp 
              clear x0 x1 x2 x3 x4 x5 x6 x7 x8 y0 y1 y2 y3 y4 y5 y6 y7 y8 hSl hSo
              (refine wpS_h rfl rfl (fun K hK => ?_); go_simp; refine hK _ _ ?_; clear hK K)
              refine wpG_nil ?_
              have HRA2 := Lib.hid (HRA.out.fut HFp.out)
              have HIA2 := Lib.hid (HIA.out.fut HFp.out)
              have HRO2 := Lib.hid (HRO.out.fut HFp.out)
              have HIO2 := Lib.hid (HIO.out.fut HFp.out)
              have HA5 := Lib.hid (HA4.out.trans HFp.out)
              clear HRA HIA HRO HIO HFp
              have hlc : cols.length = n := by
                have h9 := congrArg List.length HKA.out
                rw [List.length_map, ofK_len] at h9
                rw [h9]; exact HLS.out.1
              have hlo : ocols.length = i + (n - k) := by
                have h9 := congrArg List.length HKO.out
                rw [List.length_map, ofK_len] at h9
                rw [h9, List.length_append, List.length_take, List.length_drop, HLS.out.1]; omega
              have hlp : pcols.length = k - i := by
                have h9 := congrArg List.length HKp.out
                rw [List.length_map, ofK_len] at h9
                rw [h9, List.length_drop, List.length_take, HLS.out.1]; omega
              have HLC := Lib.hid (And.intro hlc (And.intro hlo hlp))
              have hxl9 : xs.length = ks.length := by rw [HLS.out.1, HLS.out.2.1, HMN.out]
              have hva : validI ins.length cols ins s = true := of_valid HE.out (by rw [HLS.out.2.2.1]; exact HKA.out)
              have hvo : validI ins.length ocols ins s = true := of_valid HEO.out (by rw [HLS.out.2.2.1]; exact HKO.out)
              have hvp : validI ins.length pcols ins s = true := of_valid HEM.out (by rw [HLS.out.2.2.1]; exact HKp.out)
              have HRP := Lib.hid (show repE ocols ins s (i : Int) 0 ((k : Int) - (i : Int)) pcols = 0 from by
                rw [show (k : Int) - (i : Int) = (pcols.length : Int) by rw [hlp]; omega]
                exact repE_ok (fr := i) (od := 0) hvo (valid_all hvp) (by omega) (by omega))
              have HRQ := Lib.hid (show repE cols ins s (i : Int) ((k : Int) - (i : Int)) 0 [] = 0 from by
                rw [show (k : Int) - (i : Int) = ((k - i : Nat) : Int) by omega]
                exact repE_ok (fr := i) (od := k - i) hva (by simp) (by omega) (by simp; omega))
              have hkA : cols.map key = ofK (ks.take i) (xs.take i) del rep u n1 ++ (ofK ((ks.take k).drop i) ((xs.take k).drop i) del rep u n1 ++ ofK (ks.drop k) (xs.drop k) del rep u n1) := by
                rw [HKA.out]; exact ofK_three hxl9 hik (by rw [HLS.out.1]; exact hkn) n1
              have hkO : ocols.map key = ofK (ks.take i) (xs.take i) del rep u n1 ++ ofK (ks.drop k) (xs.drop k) del rep u n1 := by
                rw [HKO.out]; exact ofK_append _ _ _ _ (by rw [List.length_take, List.length_take, hxl9]) n1
              have hK1 : (ofK (ks.take i) (xs.take i) del rep u n1).length = i := by rw [ofK_len, List.length_take, HLS.out.1]; omega
              have hK2 : (ofK ((ks.take k).drop i) ((xs.take k).drop i) del rep u n1).length = k - i := by rw [ofK_len, List.length_drop, List.length_take, HLS.out.1]; omega
              have hrin := rep_in hkA hkO HKp.out
              have hrou := rep_out hkA hkO
              rw [hK1] at hrin hrou
              rw [hK2] at hrou
              obtain ⟨ra, hra⟩ : ∃ q, q = repC ocols pcols i 0 := ⟨_, rfl⟩
              obtain ⟨rb, hrb⟩ : ∃ q, q = repC cols [] i (k - i) := ⟨_, rfl⟩
              rw [← hra] at hrin
              rw [← hrb] at hrou
              have HQA := Lib.hid hra
              have HQB := Lib.hid hrb
              have HKRA := Lib.hid (And.intro hrin (show ra.length = n from by have h9 := congrArg List.length hrin; rw [List.length_map, List.length_map] at h9; omega))
              have HKRB := Lib.hid (And.intro hrou (show rb.length = i + (n - k) from by have h9 := congrArg List.length hrou; rw [List.length_map, List.length_map] at h9; omega))
              clear hlc hlo hlp hxl9 hva hvo hvp hkA hkO hK1 hK2 hrin hrou hra hrb
              have i0 := HIO2.out.c0
              have i1 := HIO2.out.c1
              have i2 := HIO2.out.c2
              have p0 := HIp.out.c0
              go_wp2_with fail
              refine (replace_any oA (i + (n - k)) oc A1 n1 c1 s (i : Int) 0 ((k : Int) - (i : Int)) pA (k - i) pc ocols pcols ins wzp HLC.out.2.1 (by omega) HLS.out.2.2.1 (by omega) HLC.out.2.2 (by omega) HNO.out.2.1 HNO.out.2.2 HNO.out.1 HNp.out HRO2.out (R1.out.fut HA5.out) HRp.out).mono ?_
              rintro e w20 ⟨hr, hb⟩
              obtain ⟨RA, Rc, rfl, hrd⟩ := hr.2 HRP.out
              rw [show repC ocols pcols (i : Int).toNat (0 : Int).toNat = ra from by rw [HQA.out]; rfl] at hrd ⊢
              rw [HKRA.out.2]
              clear i0 i1 i2 p0 hr
              have HRR := Lib.hid (hrd.fut ((Fut.refl w20).alloc (.cells #[.slice RA n Rc, .slice A1 n1 c1, .int .i64 s] 25)))
              have HF20 := Lib.hid (show Fut wzp (w20.alloc (.cells #[.slice RA n Rc, .slice A1 n1 c1, .int .i64 s] 25)) from Fut.trans hb ((Fut.refl w20).alloc _))
              have HIR := Lib.hid (show CelI (w20.alloc (.cells #[.slice RA n Rc, .slice A1 n1 c1, .int .i64 s] 25)) w20.heap.size (.slice RA n Rc) (.slice A1 n1 c1) (.int .i64 s) from heap_new' _ _ _ rfl)
              have f20 : Fut wzp w20 := hb
              have i0 := (HIA2.out.fut f20).c0
              have i1 := (HIA2.out.fut f20).c1
              have i2 := (HIA2.out.fut f20).c2
              clear hrd hb f20
              go_wp2_with fail
              generalize w20.alloc (.cells #[.slice RA n Rc, .slice A1 n1 c1, .int .i64 s] 25) = w21 at *
              generalize hwn : w20.heap.size = bra at *
              clear hwn i0 i1 i2
              refine (replace_any A n c A1 n1 c1 s (i : Int) ((k : Int) - (i : Int)) 0 none 0 0 cols [] ins w21 HLC.out.1 (by omega) HLS.out.2.2.1 (by omega) rfl (by omega) HNA.out.2.1 HNA.out.2.2 HNA.out.1 (fun _ => ⟨rfl, rfl⟩) (HRA2.out.fut HF20.out) (R1.out.fut (HA5.out.trans HF20.out)) ⟨RdS.nil, fun _ h => by simp at h⟩).mono ?_
              rintro e w22 ⟨hr, hb⟩
              obtain ⟨RB, Rd, rfl, hrd⟩ := hr.2 HRQ.out
              rw [show repC cols [] (i : Int).toNat ((k : Int) - (i : Int)).toNat = rb from by rw [HQB.out, Int.toNat_natCast, show ((k : Int) - (i : Int)).toNat = k - i by omega]] at hrd ⊢
              rw [HKRB.out.2]
              clear hr
              have HRS := Lib.hid (hrd.fut ((Fut.refl w22).alloc (.cells #[.slice RB (i + (n - k)) Rd, .slice A1 n1 c1, .int .i64 s] 25)))
              have HF22 := Lib.hid (show Fut w21 (w22.alloc (.cells #[.slice RB (i + (n - k)) Rd, .slice A1 n1 c1, .int .i64 s] 25)) from Fut.trans hb ((Fut.refl w22).alloc _))
              have HIS := Lib.hid (show CelI (w22.alloc (.cells #[.slice RB (i + (n - k)) Rd, .slice A1 n1 c1, .int .i64 s] 25)) w22.heap.size (.slice RB (i + (n - k)) Rd) (.slice A1 n1 c1) (.int .i64 s) from heap_new' _ _ _ rfl)
              clear hrd hb
              go_wp2_with fail
              generalize w22.alloc (.cells #[.slice RB (i + (n - k)) Rd, .slice A1 n1 c1, .int .i64 s] 25) = w23 at *
              generalize hwn : w22.heap.size = brb at *
              clear hwn
              refine (awake_any w23).mono ?_
              rintro e w24 ⟨rfl, hb⟩
              have f24 : Fut w23 w24 := hb
              have g24 : Fut wzp w24 := HF20.out.trans (HF22.out.trans f24)
              have i0 := (HIA2.out.fut g24).c0
              have i1 := (HIA2.out.fut g24).c1
              have i2 := (HIA2.out.fut g24).c2
              have j0 := (HIR.out.fut (HF22.out.trans f24)).c0
              have j1 := (HIR.out.fut (HF22.out.trans f24)).c1
              have j2 := (HIR.out.fut (HF22.out.trans f24)).c2
              have H24 := Lib.hid f24
              clear hb f24 g24
              go_wp2_with fail
              refine (same_any RA n Rc A1 n1 c1 s A c A1 c1 ra cols ins w24 HKRA.out.2 (by unfold maxLen; omega) HLS.out.2.2.1 (by unfold maxLen; omega) HKRA.out.1 (HRR.out.fut (HF22.out.trans H24.out)) (HRA2.out.fut (HF20.out.trans (HF22.out.trans H24.out))) (R1.out.fut (HA5.out.trans (HF20.out.trans (HF22.out.trans H24.out)))) (R1.out.fut (HA5.out.trans (HF20.out.trans (HF22.out.trans H24.out))))).mono ?_
              rintro e w25 ⟨rfl, hb⟩
              have H25 := Lib.hid (show Fut w23 w25 from H24.out.trans hb)
              clear i0 i1 i2 j0 j1 j2 hb
              have i0 := (HIO2.out.fut (HF20.out.trans (HF22.out.trans H25.out))).c0
              have i1 := (HIO2.out.fut (HF20.out.trans (HF22.out.trans H25.out))).c1
              have i2 := (HIO2.out.fut (HF20.out.trans (HF22.out.trans H25.out))).c2
              have j0 := (HIS.out.fut H25.out).c0
              have j1 := (HIS.out.fut H25.out).c1
              have j2 := (HIS.out.fut H25.out).c2
              go_wp2_with fail
              refine (same_any RB (i + (n - k)) Rd A1 n1 c1 s oA oc A1 c1 rb ocols ins w25 HKRB.out.2 (by unfold maxLen; omega) HLS.out.2.2.1 (by unfold maxLen; omega) HKRB.out.1 (HRS.out.fut H25.out) (HRO2.out.fut (HF20.out.trans (HF22.out.trans H25.out))) (R1.out.fut (HA5.out.trans (HF20.out.trans (HF22.out.trans H25.out)))) (R1.out.fut (HA5.out.trans (HF20.out.trans (HF22.out.trans H25.out))))).mono ?_
              rintro e w26 ⟨rfl, hb⟩
              have HB26 := Lib.hid (show Fut w w26 from (HWB.out.trans (HA5.out.trans (HF20.out.trans (HF22.out.trans H25.out)))).trans hb)
              clear i0 i1 i2 j0 j1 j2 hb
              go_wp2_with fail
              go_ret
              exact ⟨rfl, HB26.out⟩
            · go_simp
              refine hK _ _ (.inr ((relS S).of_fut ((Fut.refl _).alloc _))) ?_
              clear hK K
              refine wpG_o rfl rfl (fun K hK => ?_)
              go_simp
              go_at_call 15
              refine (HOM.out _ (HZ.out.fut ((HA4.out).trans (((Fut.refl w13).alloc _).drew))) (HX.out.fut ((HA4.out).trans (((Fut.refl w13).alloc _).drew))) (R1.out.fut ((HA4.out).trans (((Fut.refl w13).alloc _).drew))) (R2.out.fut ((HA4.out).trans (((Fut.refl w13).alloc _).drew))) (R3.out.fut ((HA4.out).trans (((Fut.refl w13).alloc _).drew)))).mono ?_
              rintro e wp ⟨hr, hb⟩
              obtain ⟨pA, pc, pcols, rfl, hkey, hrd, hlo1, hlo2, hcut, hcap1, hcap2⟩ := hr.2 HEM.out
              refine hK _ _ (.inr ((relS S).of_fut hb)) ?_
              clear hK K
              have HKp := Lib.hid hkey
              have HNp := Lib.hid (show pA = none → (k - i) = 0 ∧ pc = 0 from fun e9 => by
                rcases hcut with h9 | ⟨b9, o9, h9⟩
                · exact h9
                · rw [e9] at h9; cases h9)
              clear hcut hcap1 hcap2
              have hG : Fut w13 wp := (((Fut.refl w13).alloc (.cells #[.slice none 0 0, .slice none 0 0, .int .i64 0] 25)).drew).trans hb
              iterate 3 (refine wpS_h rfl rfl (fun K hK => ?_); go_simp; refine hK _ _ ?_; clear hK K)
              obtain ⟨bp, hbb⟩ : ∃ q, q = w13.heap.size := ⟨_, rfl⟩
              rw [← hbb]
              have HCp := Lib.hid (show CelI wp bp (.slice none 0 0) (.slice none 0 0) (.int .i64 0) from CelI.fut (show CelI (w13.alloc (.cells #[.slice none 0 0, .slice none 0 0, .int .i64 0] 25)).drew bp _ _ _ from heap_new' _ _ _ hbb) hb)
              have HBp := Lib.hid (show w13.heap.size ≤ bp from by omega)
              have HGp := Lib.hid hG
              have HDp := Lib.hid hrd
              have hsz9 : (w13.alloc (.cells #[.slice none 0 0, .slice none 0 0, .int .i64 0] 25)).drew.heap.size = w13.heap.size + 1 := by show (w13.alloc _).heap.size = _; rw [World.size_alloc]
              have HLp := Lib.hid (And.intro (show ∀ b o q, pA = some ⟨b, o, q⟩ → b ≠ bp from fun b o q e9 => by have := hlo1 b o q e9; omega) (show ∀ y ∈ pcols, ∀ b o q, y.A = some ⟨b, o, q⟩ → b ≠ bp from fun y hy b o q e9 => by have := hlo2 y hy b o q e9; omega))
              clear hkey hrd hlo1 hlo2 hsz9
              clear hr hb hG hbb
              obtain ⟨wsp, rfl⟩ : ∃ q, q = wp := ⟨_, rfl⟩
              refine wpG_o rfl rfl (fun K hK => ?_)
              have z0 := HCp.out.c0
              have z1 := HCp.out.c1
              have z2 := HCp.out.c2
              have z3 := HCp.out.fz 0
              have z4 := HCp.out.fz 1
              have z5 := HCp.out.fz 2
              go_simp
              refine hK _ _ (.inr ((relS S).trans (futS_set _ _ _ (hSo _ HBp.out)) ((relS S).trans (futS_set _ _ _ (hSo _ HBp.out)) (futS_set _ _ _ (hSo _ HBp.out))))) ?_
              clear hK K z0 z1 z2 z3 z4 z5
              have HIp := Lib.hid (HCp.out.sets (.slice pA (k - i) pc) (.slice A1 n1 c1) (.int .i64 s))
              have HFp := Lib.hid (show Fut w13 (((wsp.setCell ⟨bp, 0, none⟩ (.slice pA (k - i) pc)).setCell ⟨bp, 1, none⟩ (.slice A1 n1 c1)).setCell ⟨bp, 2, none⟩ (.int .i64 s)) from sets_fut HGp.out HBp.out _ _ _)
              have HRp := Lib.hid (show RdC (((wsp.setCell ⟨bp, 0, none⟩ (.slice pA (k - i) pc)).setCell ⟨bp, 1, none⟩ (.slice A1 n1 c1)).setCell ⟨bp, 2, none⟩ (.int .i64 s)) pA pcols from rdc_far HDp.out HLp.out.1 HLp.out.2 _ _ _)
              generalize (((wsp.setCell ⟨bp, 0, none⟩ (.slice pA (k - i) pc)).setCell ⟨bp, 1, none⟩ (.slice A1 n1 c1)).setCell ⟨bp, 2, none⟩ (.int .i64 s)) = wzp at *
              clear HCp HGp HDp HLp 
              clear x0 x1 x2 x3 x4 x5 x6 x7 x8 y0 y1 y2 y3 y4 y5 y6 y7 y8 hSl hSo
              (refine wpS_h rfl rfl (fun K hK => ?_); go_simp; refine hK _ _ ?_; clear hK K)
              refine wpG_nil ?_
              have HRA2 := Lib.hid (HRA.out.fut HFp.out)
              have HIA2 := Lib.hid (HIA.out.fut HFp.out)
              have HRO2 := Lib.hid (HRO.out.fut HFp.out)
              have HIO2 := Lib.hid (HIO.out.fut HFp.out)
              have HA5 := Lib.hid (HA4.out.trans HFp.out)
              clear HRA HIA HRO HIO HFp
              have hlc : cols.length = n := by
                have h9 := congrArg List.length HKA.out
                rw [List.length_map, ofK_len] at h9
                rw [h9]; exact HLS.out.1
              have hlo : ocols.length = i + (n - k) := by
                have h9 := congrArg List.length HKO.out
                rw [List.length_map, ofK_len] at h9
                rw [h9, List.length_append, List.length_take, List.length_drop, HLS.out.1]; omega
              have hlp : pcols.length = k - i := by
                have h9 := congrArg List.length HKp.out
                rw [List.length_map, ofK_len] at h9
                rw [h9, List.length_drop, List.length_take, HLS.out.1]; omega
              have HLC := Lib.hid (And.intro hlc (And.intro hlo hlp))
              have hxl9 : xs.length = ks.length := by rw [HLS.out.1, HLS.out.2.1, HMN.out]
              have hva : validI ins.length cols ins s = true := of_valid HE.out (by rw [HLS.out.2.2.1]; exact HKA.out)
              have hvo : validI ins.length ocols ins s = true := of_valid HEO.out (by rw [HLS.out.2.2.1]; exact HKO.out)
              have hvp : validI ins.length pcols ins s = true := of_valid HEM.out (by rw [HLS.out.2.2.1]; exact HKp.out)
              have HRP := Lib.hid (show repE ocols ins s (i : Int) 0 ((k : Int) - (i : Int)) pcols = 0 from by
                rw [show (k : Int) - (i : Int) = (pcols.length : Int) by rw [hlp]; omega]
                exact repE_ok (fr := i) (od := 0) hvo (valid_all hvp) (by omega) (by omega))
              have HRQ := Lib.hid (show repE cols ins s (i : Int) ((k : Int) - (i : Int)) 0 [] = 0 from by
                rw [show (k : Int) - (i : Int) = ((k - i : Nat) : Int) by omega]
                exact repE_ok (fr := i) (od := k - i) hva (by simp) (by omega) (by simp; omega))
              have hkA : cols.map key = ofK (ks.take i) (xs.take i) del rep u n1 ++ (ofK ((ks.take k).drop i) ((xs.take k).drop i) del rep u n1 ++ ofK (ks.drop k) (xs.drop k) del rep u n1) := by
                rw [HKA.out]; exact ofK_three hxl9 hik (by rw [HLS.out.1]; exact hkn) n1
              have hkO : ocols.map key = ofK (ks.take i) (xs.take i) del rep u n1 ++ ofK (ks.drop k) (xs.drop k) del rep u n1 := by
                rw [HKO.out]; exact ofK_append _ _ _ _ (by rw [List.length_take, List.length_take, hxl9]) n1
              have hK1 : (ofK (ks.take i) (xs.take i) del rep u n1).length = i := by rw [ofK_len, List.length_take, HLS.out.1]; omega
              have hK2 : (ofK ((ks.take k).drop i) ((xs.take k).drop i) del rep u n1).length = k - i := by rw [ofK_len, List.length_drop, List.length_take, HLS.out.1]; omega
              have hrin := rep_in hkA hkO HKp.out
              have hrou := rep_out hkA hkO
              rw [hK1] at hrin hrou
              rw [hK2] at hrou
              obtain ⟨ra, hra⟩ : ∃ q, q = repC ocols pcols i 0 := ⟨_, rfl⟩
              obtain ⟨rb, hrb⟩ : ∃ q, q = repC cols [] i (k - i) := ⟨_, rfl⟩
              rw [← hra] at hrin
              rw [← hrb] at hrou
              have HQA := Lib.hid hra
              have HQB := Lib.hid hrb
              have HKRA := Lib.hid (And.intro hrin (show ra.length = n from by have h9 := congrArg List.length hrin; rw [List.length_map, List.length_map] at h9; omega))
              have HKRB := Lib.hid (And.intro hrou (show rb.length = i + (n - k) from by have h9 := congrArg List.length hrou; rw [List.length_map, List.length_map] at h9; omega))
              clear hlc hlo hlp hxl9 hva hvo hvp hkA hkO hK1 hK2 hrin hrou hra hrb
              have i0 := HIO2.out.c0
              have i1 := HIO2.out.c1
              have i2 := HIO2.out.c2
              have p0 := HIp.out.c0
              go_wp2_with fail
              refine (replace_any oA (i + (n - k)) oc A1 n1 c1 s (i : Int) 0 ((k : Int) - (i : Int)) pA (k - i) pc ocols pcols ins wzp HLC.out.2.1 (by omega) HLS.out.2.2.1 (by omega) HLC.out.2.2 (by omega) HNO.out.2.1 HNO.out.2.2 HNO.out.1 HNp.out HRO2.out (R1.out.fut HA5.out) HRp.out).mono ?_
              rintro e w20 ⟨hr, hb⟩
              obtain ⟨RA, Rc, rfl, hrd⟩ := hr.2 HRP.out
              rw [show repC ocols pcols (i : Int).toNat (0 : Int).toNat = ra from by rw [HQA.out]; rfl] at hrd ⊢
              rw [HKRA.out.2]
              clear i0 i1 i2 p0 hr
              have HRR := Lib.hid (hrd.fut ((Fut.refl w20).alloc (.cells #[.slice RA n Rc, .slice A1 n1 c1, .int .i64 s] 25)))
              have HF20 := Lib.hid (show Fut wzp (w20.alloc (.cells #[.slice RA n Rc, .slice A1 n1 c1, .int .i64 s] 25)) from Fut.trans hb ((Fut.refl w20).alloc _))
              have HIR := Lib.hid (show CelI (w20.alloc (.cells #[.slice RA n Rc, .slice A1 n1 c1, .int .i64 s] 25)) w20.heap.size (.slice RA n Rc) (.slice A1 n1 c1) (.int .i64 s) from heap_new' _ _ _ rfl)
              have f20 : Fut wzp w20 := hb
              have i0 := (HIA2.out.fut f20).c0
              have i1 := (HIA2.out.fut f20).c1
              have i2 := (HIA2.out.fut f20).c2
              clear hrd hb f20
              go_wp2_with fail
              generalize w20.alloc (.cells #[.slice RA n Rc, .slice A1 n1 c1, .int .i64 s] 25) = w21 at *
              generalize hwn : w20.heap.size = bra at *
              clear hwn i0 i1 i2
              refine (replace_any A n c A1 n1 c1 s (i : Int) ((k : Int) - (i : Int)) 0 none 0 0 cols [] ins w21 HLC.out.1 (by omega) HLS.out.2.2.1 (by omega) rfl (by omega) HNA.out.2.1 HNA.out.2.2 HNA.out.1 (fun _ => ⟨rfl, rfl⟩) (HRA2.out.fut HF20.out) (R1.out.fut (HA5.out.trans HF20.out)) ⟨RdS.nil, fun _ h => by simp at h⟩).mono ?_
              rintro e w22 ⟨hr, hb⟩
              obtain ⟨RB, Rd, rfl, hrd⟩ := hr.2 HRQ.out
              rw [show repC cols [] (i : Int).toNat ((k : Int) - (i : Int)).toNat = rb from by rw [HQB.out, Int.toNat_natCast, show ((k : Int) - (i : Int)).toNat = k - i by omega]] at hrd ⊢
              rw [HKRB.out.2]
              clear hr
              have HRS := Lib.hid (hrd.fut ((Fut.refl w22).alloc (.cells #[.slice RB (i + (n - k)) Rd, .slice A1 n1 c1, .int .i64 s] 25)))
              have HF22 := Lib.hid (show Fut w21 (w22.alloc (.cells #[.slice RB (i + (n - k)) Rd, .slice A1 n1 c1, .int .i64 s] 25)) from Fut.trans hb ((Fut.refl w22).alloc _))
              have HIS := Lib.hid (show CelI (w22.alloc (.cells #[.slice RB (i + (n - k)) Rd, .slice A1 n1 c1, .int .i64 s] 25)) w22.heap.size (.slice RB (i + (n - k)) Rd) (.slice A1 n1 c1) (.int .i64 s) from heap_new' _ _ _ rfl)
              clear hrd hb
              go_wp2_with fail
              generalize w22.alloc (.cells #[.slice RB (i + (n - k)) Rd, .slice A1 n1 c1, .int .i64 s] 25) = w23 at *
              generalize hwn : w22.heap.size = brb at *
              clear hwn
              refine (awake_any w23).mono ?_
              rintro e w24 ⟨rfl, hb⟩
              have f24 : Fut w23 w24 := hb
              have g24 : Fut wzp w24 := HF20.out.trans (HF22.out.trans f24)
              have i0 := (HIA2.out.fut g24).c0
              have i1 := (HIA2.out.fut g24).c1
              have i2 := (HIA2.out.fut g24).c2
              have j0 := (HIR.out.fut (HF22.out.trans f24)).c0
              have j1 := (HIR.out.fut (HF22.out.trans f24)).c1
              have j2 := (HIR.out.fut (HF22.out.trans f24)).c2
              have H24 := Lib.hid f24
              clear hb f24 g24
              go_wp2_with fail
              refine (same_any RA n Rc A1 n1 c1 s A c A1 c1 ra cols ins w24 HKRA.out.2 (by unfold maxLen; omega) HLS.out.2.2.1 (by unfold maxLen; omega) HKRA.out.1 (HRR.out.fut (HF22.out.trans H24.out)) (HRA2.out.fut (HF20.out.trans (HF22.out.trans H24.out))) (R1.out.fut (HA5.out.trans (HF20.out.trans (HF22.out.trans H24.out)))) (R1.out.fut (HA5.out.trans (HF20.out.trans (HF22.out.trans H24.out))))).mono ?_
              rintro e w25 ⟨rfl, hb⟩
              have H25 := Lib.hid (show Fut w23 w25 from H24.out.trans hb)
              clear i0 i1 i2 j0 j1 j2 hb
              have i0 := (HIO2.out.fut (HF20.out.trans (HF22.out.trans H25.out))).c0
              have i1 := (HIO2.out.fut (HF20.out.trans (HF22.out.trans H25.out))).c1
              have i2 := (HIO2.out.fut (HF20.out.trans (HF22.out.trans H25.out))).c2
              have j0 := (HIS.out.fut H25.out).c0
              have j1 := (HIS.out.fut H25.out).c1
              have j2 := (HIS.out.fut H25.out).c2
              go_wp2_with fail
              refine (same_any RB (i + (n - k)) Rd A1 n1 c1 s oA oc A1 c1 rb ocols ins w25 HKRB.out.2 (by unfold maxLen; omega) HLS.out.2.2.1 (by unfold maxLen; omega) HKRB.out.1 (HRS.out.fut H25.out) (HRO2.out.fut (HF20.out.trans (HF22.out.trans H25.out))) (R1.out.fut (HA5.out.trans (HF20.out.trans (HF22.out.trans H25.out)))) (R1.out.fut (HA5.out.trans (HF20.out.trans (HF22.out.trans H25.out))))).mono ?_
              rintro e w26 ⟨rfl, hb⟩
              have HB26 := Lib.hid (show Fut w w26 from (HWB.out.trans (HA5.out.trans (HF20.out.trans (HF22.out.trans H25.out)))).trans hb)
              clear i0 i1 i2 j0 j1 j2 hb
              go_wp2_with fail
              go_ret
              exact ⟨rfl, HB26.out⟩
          · have HE := Lib.hid hE
            obtain ⟨m4, m5, m6⟩ := cmpF_no hE
            clear hE
            go_wp2_with fail
            refine (HOA.out _ (HZ.out.fut HF.out) (HX.out.fut HF.out) (R1.out.fut HF.out) (R2.out.fut HF.out) (R3.out.fut HF.out)).mono ?_
            rintro e w10 ⟨hr, hb⟩
            obtain rfl := hr.1 HE.out
            have f10 : Fut (fut wb d9 o9) w10 := hb
            obtain ⟨d3, o3, rfl⟩ := fut_of (show Fut wb w10 from HF.out.trans f10)
            have HA3 := Lib.hid (show Fut wb ((fut wb d3 o3).alloc (.cells #[.slice none 0 0, .slice none 0 0, .int .i64 0] 25)) from (Fut.fut _ _ _).alloc _)
            have HK3 := Lib.hid (HKO9.out.fut (f10.trans ((Fut.refl (fut wb d3 o3)).alloc (.cells #[.slice none 0 0, .slice none 0 0, .int .i64 0] 25))))
            have HX3 := Lib.hid (HXO.out.fut (f10.trans ((Fut.refl (fut wb d3 o3)).alloc (.cells #[.slice none 0 0, .slice none 0 0, .int .i64 0] 25))))
            clear hr hb f10 HKO9 HXO HF HF9 HOA
            go_wp2_with fail
            refine (HOO.out _ HK3.out HX3.out (R1.out.fut HA3.out) (R2.out.fut HA3.out) (R3.out.fut HA3.out)).mono ?_
            rintro e w11 ⟨hr, hb⟩
            obtain ⟨oA, on, oc, oB, om, od, os, oe, rfl⟩ := hr.opq
            have f11 : Fut ((fut wb d3 o3).alloc (.cells #[.slice none 0 0, .slice none 0 0, .int .i64 0] 25)) w11 := hb
            obtain ⟨d4, o4, rfl⟩ := fut_of (show Fut wb w11 from HA3.out.trans f11)
            have HA4 := Lib.hid (show Fut wb ((fut wb d4 o4).alloc (.cells #[.slice oA on oc, .slice oB om od, .int .i64 os] 25)) from (Fut.fut _ _ _).alloc _)
            clear hr hb f11 HK3 HX3 HA3 HOO
            go_wp2_with fail
            generalize (fut wb d4 o4).alloc (.cells #[.slice oA on oc, .slice oB om od, .int .i64 os] 25) = w13 at *
            generalize hwn : (fut wb d3 o3).heap.size = ba at *
            clear hwn
            generalize hwn : (fut wb d4 o4).heap.size = bo at *
            clear hwn
            obtain ⟨d9, o9, hw9⟩ := fut_of HA4.out
            have y0 := q0 d9 o9
            have y1 := q1 d9 o9
            have y2 := q2 d9 o9
            have y3 := q3 d9 o9
            have y4 := q4 d9 o9
            have y5 := q5 d9 o9
            have y6 := q6 d9 o9
            have y7 := q7 d9 o9
            have y8 := q8 d9 o9
            rw [← hw9] at y0 y1 y2 y3 y4 y5 y6 y7 y8
            clear hw9
            obtain ⟨S, hS⟩ : ∃ S : Nat → Bool, S = fun q => decide (w13.heap.size ≤ q) := ⟨_, rfl⟩
            have hSl : ∀ q, q < w13.heap.size → S q = false := fun q hq => by rw [hS]; exact decide_eq_false (by omega)
            have hSo : ∀ q, w13.heap.size ≤ q → S q = true := fun q hq => by rw [hS]; exact decide_eq_true hq
            clear hS
            have x0 := cell_futS y0 (hSl _ (World.block_lt_of_cell? _ _ y0))
            have x1 := cell_futS y1 (hSl _ (World.block_lt_of_cell? _ _ y1))
            have x2 := cell_futS y2 (hSl _ (World.block_lt_of_cell? _ _ y2))
            have x3 := cell_futS y3 (hSl _ (World.block_lt_of_cell? _ _ y3))
            have x4 := cell_futS y4 (hSl _ (World.block_lt_of_cell? _ _ y4))
            have x5 := cell_futS y5 (hSl _ (World.block_lt_of_cell? _ _ y5))
            have x6 := cell_futS y6 (hSl _ (World.block_lt_of_cell? _ _ y6))
            have x7 := cell_futS y7 (hSl _ (World.block_lt_of_cell? _ _ y7))
            have x8 := cell_futS y8 (hSl _ (World.block_lt_of_cell? _ _ y8))
            have kkz : k ≤ zc := by have := HBS.out.2.2.1; omega
            have kkx : k ≤ xc := by have := HBS.out.2.2.2.1; have := HMN.out; omega
            go_wp2_with fail
            refine wp_region_MG (relS S) o_emendatelaw35_ColumnsReplaceIsRecomputation_10 (by kernel_rfl) (by kernel_rfl) (by intro c a d v w h; cases d <;> exact h) ?_; unfold o_emendatelaw35_ColumnsReplaceIsRecomputation_10
            iterate 11 (refine wpS_h rfl rfl (fun K hK => ?_); go_simp; refine hK _ _ ?_; clear hK K)
            generalize hZI : (if zc = i then Z else Option.map (fun x => x.add i) Z) = ZI
            generalize hXI : (if xc = i then X else Option.map (fun x => x.add i) X) = XI
            have HZI := Lib.hid (show cutA Z zc i 1 = ZI from by rw [← hZI]; simp [cutA])
            have HXI := Lib.hid (show cutA X xc i 1 = XI from by rw [← hXI]; simp [cutA])
            clear hZI hXI
            have HOM := Lib.hid (fun w' (a1 : Rd1 w' Z (.int .i64 ·) ks) (a2 : RdX w' X xs) a3 a4 a5 => of_anyq ZI (k - i) (zc - i) ((ks.take k).drop i) XI (k - i) (xc - i) ((xs.take k).drop i) A1 n1 c1 A2 n2 c2 A3 n3 c3 s u ins del rep w' (by have := HLS.out.1; simp; omega) (by omega) (by have := HLS.out.2.1; have := HMN.out; simp; omega) (by unfold maxLen; omega) HLS.out.2.2.1 HLS.out.2.2.2.1 HLS.out.2.2.2.2 (by omega) HBS.out.1 HBS.out.2.1 (by rw [← HZI.out]; exact Rd1.cutLow (Rd1.cutTop a1 k) (by have := HLS.out.1; have := HBS.out.2.2.1; simp; omega) i) (by rw [← HXI.out]; exact RdX.cutLow (RdX.cutTop a2 k) (by have := HLS.out.2.1; have := HBS.out.2.2.2.1; simp; omega) i) a3 a4 a5)
            refine wpG_two rfl rfl (fun K hK => ?_) (fun K hK => ?_)
            · go_simp
              go_at_call 15
              refine (HOM.out _ (HZ.out.fut ((HA4.out).trans (Fut.refl w13).drew)) (HX.out.fut ((HA4.out).trans (Fut.refl w13).drew)) (R1.out.fut ((HA4.out).trans (Fut.refl w13).drew)) (R2.out.fut ((HA4.out).trans (Fut.refl w13).drew)) (R3.out.fut ((HA4.out).trans (Fut.refl w13).drew))).mono ?_
              rintro e wp ⟨hr, hb⟩
              obtain ⟨pA, pn, pc, pB, pm, pd, ps, pe, rfl⟩ := hr.opq
              refine hK _ _ (.inr ((relS S).of_fut hb)) ?_
              clear hK K
              have hG : Fut w13 (wp.alloc (.cells #[.slice none 0 0, .slice none 0 0, .int .i64 0] 25)) := ((Fut.refl w13).drew.trans hb).alloc _
              iterate 3 (refine wpS_h rfl rfl (fun K hK => ?_); go_simp; refine hK _ _ ?_; clear hK K)
              refine wpG_o rfl rfl (fun K hK => ?_)
              go_simp
              refine hK _ _ (.inr ((relS S).of_fut ((Fut.refl _).alloc _))) ?_
              clear hK K
              obtain ⟨bp, hbb⟩ : ∃ q, q = wp.heap.size := ⟨_, rfl⟩
              rw [← hbb]
              have HCp := Lib.hid (show CelI (wp.alloc (.cells #[.slice none 0 0, .slice none 0 0, .int .i64 0] 25)) bp (.slice none 0 0) (.slice none 0 0) (.int .i64 0) from heap_new' _ _ _ hbb)
              have HBp := Lib.hid (show w13.heap.size ≤ bp from by rw [hbb]; exact ((Fut.refl w13).drew.trans hb).size)
              have HGp := Lib.hid hG
              clear hr hb hG hbb
              generalize wp.alloc (.cells #[.slice none 0 0, .slice none 0 0, .int .i64 0] 25) = wsp at *
              refine wpG_o rfl rfl (fun K hK => ?_)
              have z0 := HCp.out.c0
              have z1 := HCp.out.c1
              have z2 := HCp.out.c2
              have z3 := HCp.out.fz 0
              have z4 := HCp.out.fz 1
              have z5 := HCp.out.fz 2
              go_simp
              refine hK _ _ (.inr ((relS S).trans (futS_set _ _ _ (hSo _ HBp.out)) ((relS S).trans (futS_set _ _ _ (hSo _ HBp.out)) (futS_set _ _ _ (hSo _ HBp.out))))) ?_
              clear hK K z0 z1 z2 z3 z4 z5
              have HIp := Lib.hid (HCp.out.sets (.slice pA pn pc) (.slice pB pm pd) (.int .i64 ps))
              have HFp := Lib.hid (show Fut w13 (((wsp.setCell ⟨bp, 0, none⟩ (.slice pA pn pc)).setCell ⟨bp, 1, none⟩ (.slice pB pm pd)).setCell ⟨bp, 2, none⟩ (.int .i64 ps)) from sets_fut HGp.out HBp.out _ _ _)
              generalize (((wsp.setCell ⟨bp, 0, none⟩ (.slice pA pn pc)).setCell ⟨bp, 1, none⟩ (.slice pB pm pd)).setCell ⟨bp, 2, none⟩ (.int .i64 ps)) = wzp at *
              clear HCp HGp 
              clear x0 x1 x2 x3 x4 x5 x6 x7 x8 y0 y1 y2 y3 y4 y5 y6 y7 y8 hSl hSo
              (refine wpS_h rfl rfl (fun K hK => ?_); go_simp; refine hK _ _ ?_; clear hK K)
              refine wpG_nil ?_
              obtain ⟨d9, o9, rfl⟩ := fut_of (show Fut wb wzp from HA4.out.trans HFp.out)
              clear HFp HIp
              go_wp2_with fail
              refine (awake_any _).mono ?_
              rintro e w14 ⟨rfl, hb14⟩
              have HB14 := Lib.hid (show Fut w w14 from (HWB.out.trans (Fut.fut _ _ _)).trans hb14)
              clear hb14
              go_wp2_with fail
              go_ret
              exact ⟨rfl, HB14.out⟩
            · go_simp
              refine hK _ _ (.inr ((relS S).of_fut ((Fut.refl _).alloc _))) ?_
              clear hK K
              refine wpG_o rfl rfl (fun K hK => ?_)
              go_simp
              go_at_call 15
              refine (HOM.out _ (HZ.out.fut ((HA4.out).trans (((Fut.refl w13).alloc _).drew))) (HX.out.fut ((HA4.out).trans (((Fut.refl w13).alloc _).drew))) (R1.out.fut ((HA4.out).trans (((Fut.refl w13).alloc _).drew))) (R2.out.fut ((HA4.out).trans (((Fut.refl w13).alloc _).drew))) (R3.out.fut ((HA4.out).trans (((Fut.refl w13).alloc _).drew)))).mono ?_
              rintro e wp ⟨hr, hb⟩
              obtain ⟨pA, pn, pc, pB, pm, pd, ps, pe, rfl⟩ := hr.opq
              refine hK _ _ (.inr ((relS S).of_fut hb)) ?_
              clear hK K
              have hG : Fut w13 wp := (((Fut.refl w13).alloc (.cells #[.slice none 0 0, .slice none 0 0, .int .i64 0] 25)).drew).trans hb
              iterate 3 (refine wpS_h rfl rfl (fun K hK => ?_); go_simp; refine hK _ _ ?_; clear hK K)
              obtain ⟨bp, hbb⟩ : ∃ q, q = w13.heap.size := ⟨_, rfl⟩
              rw [← hbb]
              have HCp := Lib.hid (show CelI wp bp (.slice none 0 0) (.slice none 0 0) (.int .i64 0) from CelI.fut (show CelI (w13.alloc (.cells #[.slice none 0 0, .slice none 0 0, .int .i64 0] 25)).drew bp _ _ _ from heap_new' _ _ _ hbb) hb)
              have HBp := Lib.hid (show w13.heap.size ≤ bp from by omega)
              have HGp := Lib.hid hG
              clear hr hb hG hbb
              obtain ⟨wsp, rfl⟩ : ∃ q, q = wp := ⟨_, rfl⟩
              refine wpG_o rfl rfl (fun K hK => ?_)
              have z0 := HCp.out.c0
              have z1 := HCp.out.c1
              have z2 := HCp.out.c2
              have z3 := HCp.out.fz 0
              have z4 := HCp.out.fz 1
              have z5 := HCp.out.fz 2
              go_simp
              refine hK _ _ (.inr ((relS S).trans (futS_set _ _ _ (hSo _ HBp.out)) ((relS S).trans (futS_set _ _ _ (hSo _ HBp.out)) (futS_set _ _ _ (hSo _ HBp.out))))) ?_
              clear hK K z0 z1 z2 z3 z4 z5
              have HIp := Lib.hid (HCp.out.sets (.slice pA pn pc) (.slice pB pm pd) (.int .i64 ps))
              have HFp := Lib.hid (show Fut w13 (((wsp.setCell ⟨bp, 0, none⟩ (.slice pA pn pc)).setCell ⟨bp, 1, none⟩ (.slice pB pm pd)).setCell ⟨bp, 2, none⟩ (.int .i64 ps)) from sets_fut HGp.out HBp.out _ _ _)
              generalize (((wsp.setCell ⟨bp, 0, none⟩ (.slice pA pn pc)).setCell ⟨bp, 1, none⟩ (.slice pB pm pd)).setCell ⟨bp, 2, none⟩ (.int .i64 ps)) = wzp at *
              clear HCp HGp 
              clear x0 x1 x2 x3 x4 x5 x6 x7 x8 y0 y1 y2 y3 y4 y5 y6 y7 y8 hSl hSo
              (refine wpS_h rfl rfl (fun K hK => ?_); go_simp; refine hK _ _ ?_; clear hK K)
              refine wpG_nil ?_
              obtain ⟨d9, o9, rfl⟩ := fut_of (show Fut wb wzp from HA4.out.trans HFp.out)
              clear HFp HIp
              go_wp2_with fail
              refine (awake_any _).mono ?_
              rintro e w14 ⟨rfl, hb14⟩
              have HB14 := Lib.hid (show Fut w w14 from (HWB.out.trans (Fut.fut _ _ _)).trans hb14)
              clear hb14
              go_wp2_with fail
              go_ret
              exact ⟨rfl, HB14.out⟩
      · obtain ⟨m1, m2, m3⟩ := cmpF_no hmn
        clear hmn
        go_enter Try.func7, Try.ntmps7
        go_wp2_with (first | (go_at_call 13; refine (HFZ.out _ HX.out).mono ?_; rintro e w1 ⟨rfl, hb1⟩; obtain ⟨dd, oo, rfl⟩ := fut_of hb1; clear hb1) | (go_at_call 14; refine (HFP.out _ (R3.out.fut (Fut.fut _ _ _))).mono ?_; rintro e w1 ⟨rfl, hb1⟩; obtain ⟨d2, o2, rfl⟩ := fut_of (Fut.trans (Fut.fut _ _ _) hb1); clear hb1) | (go_at_call 10; refine (awake_any _).mono ?_; rintro e w1 ⟨rfl, hb1⟩; have HB := Lib.hid hb1; clear hb1))
        go_ret
        exact ⟨rfl, HW.out.trans ((Fut.fut _ _ _).trans HB.out)⟩
    · rw [bnot hp] at HFP
      go_enter Try.func7, Try.ntmps7
      go_wp2_with (first | (go_at_call 13; refine (HFZ.out _ HX.out).mono ?_; rintro e w1 ⟨rfl, hb1⟩; obtain ⟨dd, oo, rfl⟩ := fut_of hb1; clear hb1) | (go_at_call 14; refine (HFP.out _ (R3.out.fut (Fut.fut _ _ _))).mono ?_; rintro e w1 ⟨rfl, hb1⟩; obtain ⟨d2, o2, rfl⟩ := fut_of (Fut.trans (Fut.fut _ _ _) hb1); clear hb1) | (go_at_call 10; refine (awake_any _).mono ?_; rintro e w1 ⟨rfl, hb1⟩; have HB := Lib.hid hb1; clear hb1))
      go_ret
      exact ⟨rfl, HW.out.trans ((Fut.fut _ _ _).trans HB.out)⟩
  · rw [bnot hz] at HFZ
    go_enter Try.func7, Try.ntmps7
    go_wp2_with (first | (go_at_call 13; refine (HFZ.out _ HX.out).mono ?_; rintro e w1 ⟨rfl, hb1⟩; obtain ⟨dd, oo, rfl⟩ := fut_of hb1; clear hb1) | (go_at_call 14; refine (HFP.out _ (R3.out.fut (Fut.fut _ _ _))).mono ?_; rintro e w1 ⟨rfl, hb1⟩; obtain ⟨d2, o2, rfl⟩ := fut_of (Fut.trans (Fut.fut _ _ _) hb1); clear hb1) | (go_at_call 10; refine (awake_any _).mono ?_; rintro e w1 ⟨rfl, hb1⟩; have HB := Lib.hid hb1; clear hb1))
    go_ret
    exact ⟨rfl, HW.out.trans ((Fut.fut _ _ _).trans HB.out)⟩
end Go.Proofs.Ytagmpbgidooibaa
