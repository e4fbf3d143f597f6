/-
  Validity of prices, as the program has it.
-/
import Derived.Test.YtagmpbgidooibaaC4
namespace Go.Proofs.Ytagmpbgidooibaa
open Go.RowKit
attribute [local go_sem] Oper.lit fut_fut fut_drew World.cell?_alloc_some
/-- a row of numbers, and where it lies -/
structure RR where
  l : List Int
  A : Option Addr
  k : Nat
def encR (r : RR) : List Value := [.slice r.A r.l.length r.k]
def RdR (w : World) (A : Option Addr) (rs : List RR) : Prop := RdS w A 1 encR rs ∧ ∀ r ∈ rs, Rd1 w r.A (.int .i64 ·) r.l ∧ r.l.length ≤ maxLen
theorem RdR.fut {w w' : World} {A : Option Addr} {rs : List RR} (h : RdR w A rs) (hf : Fut w w') : RdR w' A rs :=
  ⟨h.1.fut hf, fun r hr => ⟨(h.2 r hr).1.fut hf, (h.2 r hr).2⟩⟩
abbrev pv (A1 : Option Addr) (n1 c1 : Nat) (A2 : Option Addr) (n2 c2 : Nat) (A3 : Option Addr) (n3 c3 : Nat) (s u : Int) : Value := .agg #[.slice A1 n1 c1, .slice A2 n2 c2, .slice A3 n3 c3, .int .i64 s, .int .i64 u]
def bw (lo x : Int) : Bool := decide (lo ≤ x) && decide (x ≤ 1000)
def okQ (a b : Nat) (x : Int) : Bool := if (a : Int) = (b : Int) then decide (x = 0) else decide (x = -1) || bw 1 x
def gr (rs : List RR) (a : Nat) : List Int := ((rs[a]?).map (·.l)).getD []
def rowB (m a : Nat) (l : List Int) : Bool := decide (l.length = m) && allB l.length (fun b => okQ a b (gi l b))
def prA (ins del : List Int) (rep : List RR) (a : Nat) : Bool := (bw 1 (gi ins a) && bw 1 (gi del a)) && rowB ins.length a (gr rep a)
def pricesB (ins del : List Int) (rep : List RR) (s u : Int) : Bool := (((decide (del.length = ins.length) && decide (rep.length = ins.length)) && bw 0 s) && bw 1 u) && allB ins.length (prA ins del rep)
theorem gr_get {rs : List RR} {a : Nat} {r : RR} (h : rs[a]? = some r) : gr rs a = r.l := by simp [gr, h]
theorem bw_iff (lo x : Int) : bw lo x = true ↔ lo ≤ x ∧ x ≤ 1000 := by simp [bw]
theorem in_any (x lo : Int) (w : World) : Calls Try.prog 39 #[.int .i64 x, .int .i64 lo] w fun e w' => e = .returned (.bool (bw lo x)) ∧ w' = w := by
  go_enter Try.func39, Try.ntmps39
  go_wp2
  all_goals
    go_returns
    refine ⟨?_, rfl⟩
    first | rfl | (simp_all [bw]; try omega)
theorem between_any (x lo : Int) (w : World) : Calls Try.prog 42 #[.int .i64 x, .int .i64 lo, .int .i64 1000] w fun e w' => e = .returned (.bool (bw lo x)) ∧ w' = w := by
  go_enter Try.func42, Try.ntmps42
  go_wp2
  all_goals
    go_returns
    refine ⟨?_, rfl⟩
    first | rfl | (simp_all [bw]; try omega)
set_option maxHeartbeats 6400000 in
set_option maxRecDepth 4000 in
theorem prices_any (A1 : Option Addr) (n1 c1 : Nat) (A2 : Option Addr) (n2 c2 : Nat) (A3 : Option Addr) (n3 c3 : Nat) (s u : Int) (ins del : List Int) (rep : List RR) (w : World) (h1 : ins.length = n1) (h2 : del.length = n2) (h3 : rep.length = n3) (b1 : n1 ≤ maxLen) (b2 : n2 ≤ maxLen) (b3 : n3 ≤ maxLen) (r1 : Rd1 w A1 (.int .i64 ·) ins) (r2 : Rd1 w A2 (.int .i64 ·) del) (r3 : RdR w A3 rep) :
    Calls Try.prog 27 #[pv A1 n1 c1 A2 n2 c2 A3 n3 c3 s u, .int .i64 n1] w fun e w' => e = .returned (.bool (pricesB ins del rep s u)) ∧ Below w.heap.size w w' := by
  have k1 : n1 ≤ 9223372036854775807 := b1
  have k2 : n2 ≤ 9223372036854775807 := b2
  have k3 : n3 ≤ 9223372036854775807 := b3
  have k0 : ((n1 : Int) < 0) = False := eq_false (by omega)
  have HW := Lib.hid ((Fut.refl w).alloc (.cells #[.slice A1 n1 c1, .slice A2 n2 c2, .slice A3 n3 c3, .int .i64 s, .int .i64 u] 34))
  have q0 : (w.alloc (.cells #[.slice A1 n1 c1, .slice A2 n2 c2, .slice A3 n3 c3, .int .i64 s, .int .i64 u] 34)).cell? ⟨w.heap.size, 0, none⟩ = some (.slice A1 n1 c1) := by (repeat (first | exact (cell_al_new _ _ _ _ _ _ (by first | rfl | (simp only [World.size_alloc]))).trans rfl | refine (cell_al_old _ _ _ (by first | omega | (simp only [World.size_alloc]; omega))).trans ?_))
  have q1 : (w.alloc (.cells #[.slice A1 n1 c1, .slice A2 n2 c2, .slice A3 n3 c3, .int .i64 s, .int .i64 u] 34)).cell? ⟨w.heap.size, 1, none⟩ = some (.slice A2 n2 c2) := by (repeat (first | exact (cell_al_new _ _ _ _ _ _ (by first | rfl | (simp only [World.size_alloc]))).trans rfl | refine (cell_al_old _ _ _ (by first | omega | (simp only [World.size_alloc]; omega))).trans ?_))
  have q2 : (w.alloc (.cells #[.slice A1 n1 c1, .slice A2 n2 c2, .slice A3 n3 c3, .int .i64 s, .int .i64 u] 34)).cell? ⟨w.heap.size, 2, none⟩ = some (.slice A3 n3 c3) := by (repeat (first | exact (cell_al_new _ _ _ _ _ _ (by first | rfl | (simp only [World.size_alloc]))).trans rfl | refine (cell_al_old _ _ _ (by first | omega | (simp only [World.size_alloc]; omega))).trans ?_))
  have q3 : (w.alloc (.cells #[.slice A1 n1 c1, .slice A2 n2 c2, .slice A3 n3 c3, .int .i64 s, .int .i64 u] 34)).cell? ⟨w.heap.size, 3, none⟩ = some (.int .i64 s) := by (repeat (first | exact (cell_al_new _ _ _ _ _ _ (by first | rfl | (simp only [World.size_alloc]))).trans rfl | refine (cell_al_old _ _ _ (by first | omega | (simp only [World.size_alloc]; omega))).trans ?_))
  have q4 : (w.alloc (.cells #[.slice A1 n1 c1, .slice A2 n2 c2, .slice A3 n3 c3, .int .i64 s, .int .i64 u] 34)).cell? ⟨w.heap.size, 4, none⟩ = some (.int .i64 u) := by (repeat (first | exact (cell_al_new _ _ _ _ _ _ (by first | rfl | (simp only [World.size_alloc]))).trans rfl | refine (cell_al_old _ _ _ (by first | omega | (simp only [World.size_alloc]; omega))).trans ?_))
  have R1 := Lib.hid (r1.fut HW.out)
  have R2 := Lib.hid (r2.fut HW.out)
  have R3 := Lib.hid (r3.fut HW.out)
  have L1 := Lib.hid h1
  have L2 := Lib.hid h2
  have L3 := Lib.hid h3
  clear r1 r2 r3 h1 h2 h3 b1 b2 b3
  by_cases hg : n2 = n1 ∧ n3 = n1 ∧ bw 0 s = true ∧ bw 1 u = true
  · obtain ⟨rfl, rfl, g3, g4⟩ := hg
    have HG := Lib.hid (show ∀ b, allB ins.length (prA ins del rep) = b → pricesB ins del rep s u = b from fun b hb => by
      simp only [pricesB, L1.out, L2.out, L3.out, g3, g4, decide_true, Bool.true_and]
      rwa [L1.out] at hb)
    go_enter Try.func27, Try.ntmps27
    go_wp2_with (go_at_call 39; refine (in_any _ _ _).mono ?_; rintro e w1 ⟨rfl, hw1⟩; replace hw1 := hw1.symm; subst hw1)
    generalize w.alloc (.cells #[.slice A1 n3 c1, .slice A2 n3 c2, .slice A3 n3 c3, .int .i64 s, .int .i64 u] 34) = wb at *
    go_loopw [44] (fun i wr => ∃ a : Nat, a ≤ n3 ∧ i = .int .i64 a ∧ Hid (∀ t, t < a → prA ins del rep t = true) ∧ wr = wb) (fun i _ => n3 - (intOf i).toNat)
    case atStart => exact ⟨0, Nat.zero_le _, rfl, Lib.hid (fun t h => absurd h (Nat.not_lt_zero _)), rfl⟩
    case round =>
      obtain ⟨a, ha, rfl, hall, rfl⟩ := hrel
      by_cases hlt : a < n3
      · obtain ⟨x, hx⟩ := get_lt L1.out hlt
        obtain ⟨y, hy⟩ := get_lt L2.out hlt
        obtain ⟨rr, hr⟩ := get_lt L3.out hlt
        obtain ⟨t1, o1, rfl, e1⟩ := R1.out a x hx
        obtain ⟨t2, o2, rfl, e2⟩ := R2.out a y hy
        obtain ⟨t3, o3, rfl, e3⟩ := R3.out.1 a rr hr
        obtain ⟨rd, rl⟩ := R3.out.2 rr (List.mem_of_getElem? hr)
        have e4 := e3 0 _ (by decide) rfl
        simp only [Nat.mul_one, Nat.add_zero] at e4
        have rl' : rr.l.length ≤ 9223372036854775807 := rl
        have HP := Lib.hid (show prA ins del rep a = ((bw 1 x && bw 1 y) && rowB n3 a rr.l) by simp only [prA, gi_get hx, gi_get hy, gr_get hr, L1.out])
        have RD := Lib.hid rd
        clear hx hy hr e3 rd rl
        obtain ⟨rl0, rA, rk⟩ := rr
        simp only at rl' HP RD e4
        have hcase : (bw 1 x = true ∧ bw 1 y = true ∧ rl0.length = n3) ∨ (prA ins del rep a = false ∧ (bw 1 x = false ∨ bw 1 x = true ∧ (bw 1 y = false ∨ bw 1 y = true ∧ ¬ (rl0.length : Int) = (n3 : Int)))) := by
          rw [HP.out]
          cases hx1 : bw 1 x with
          | false => exact .inr ⟨by simp, .inl rfl⟩
          | true => cases hy1 : bw 1 y with
            | false => exact .inr ⟨by simp, .inr ⟨rfl, .inl rfl⟩⟩
            | true =>
              by_cases hh : rl0.length = n3
              · exact .inl ⟨rfl, rfl, hh⟩
              · exact .inr ⟨by simp [rowB, hh], .inr ⟨rfl, .inr ⟨rfl, by omega⟩⟩⟩
        rcases hcase with ⟨v1, v2, rfl⟩ | ⟨hbad, hcs⟩
        · have HP2 := Lib.hid (show ∀ b, allB rl0.length (fun b => okQ a b (gi rl0 b)) = b → prA ins del rep a = b from fun b hb => by rw [HP.out, v1, v2]; simp only [rowB, hb, decide_true, Bool.true_and])
          go_wp2_with (go_at_call 39; refine (in_any _ _ _).mono ?_; rintro e w1 ⟨rfl, hw1⟩; replace hw1 := hw1.symm; subst hw1)
          go_loopw [79] (fun i wq => ∃ b : Nat, b ≤ rl0.length ∧ i = .int .i64 b ∧ Hid (∀ t, t < b → okQ a t (gi rl0 t) = true) ∧ wq = wr) (fun i _ => rl0.length - (intOf i).toNat)
          case atStart => exact ⟨0, Nat.zero_le _, rfl, Lib.hid (fun t h => absurd h (Nat.not_lt_zero _)), rfl⟩
          case round =>
            obtain ⟨b, hb, rfl, hall2, rfl⟩ := hrel
            by_cases hlt2 : b < rl0.length
            · obtain ⟨z, hz⟩ := get_lt rfl hlt2
              obtain ⟨t5, o5, rfl, e5⟩ := RD.out b z hz
              have HZ := Lib.hid (gi_get hz)
              clear hz
              have hcase : (okQ a b z = true ∧ ((a : Int) = (b : Int) ∧ z = 0 ∨ ¬ (a : Int) = (b : Int) ∧ (z = -1 ∨ ¬ z = -1 ∧ bw 1 z = true))) ∨ (okQ a b z = false ∧ ((a : Int) = (b : Int) ∧ ¬ z = 0 ∨ ¬ (a : Int) = (b : Int) ∧ ¬ z = -1 ∧ bw 1 z = false)) := by
                unfold okQ
                by_cases e : (a : Int) = (b : Int)
                · by_cases e0 : z = 0 <;> simp [e, e0]
                · by_cases e0 : z = -1
                  · simp [e, e0]
                  · cases h : bw 1 z <;> simp [e, e0]
              rcases hcase with ⟨hok, hcs⟩ | ⟨hok, hcs⟩
              · have HOK := Lib.hid hok
                clear hok
                rcases hcs with ⟨m1, m2⟩ | ⟨m1, m2 | ⟨m2, m3⟩⟩
                all_goals
                  first | (replace m1 := cmpF_yes m1) | (replace m1 := cmpF_no m1)
                  first | (replace m2 := cmpF_yes m2) | (replace m2 := cmpF_no m2)
                  obtain ⟨m1a, m1b, m1c⟩ := m1
                  obtain ⟨m2a, m2b, m2c⟩ := m2
                  go_wp2_with (go_at_call 39; refine (in_any _ _ _).mono ?_; rintro e w1 ⟨rfl, hw1⟩; replace hw1 := hw1.symm; subst hw1)
                  exact ⟨⟨b + 1, by omega, by go_num, Lib.hid (all_step hall2.out (by rw [HZ.out]; exact HOK.out)), by first | rfl | trivial⟩, by simp [intOf]; omega⟩
              · have HFin := Lib.hid (HG.out false (allB_false (t := a) (by rw [L1.out]; exact hlt) (HP2.out false (allB_false hlt2 (by rw [HZ.out]; exact hok)))))
                clear hok
                rcases hcs with ⟨m1, m2⟩ | ⟨m1, m2, m3⟩
                all_goals
                  first | (replace m1 := cmpF_yes m1) | (replace m1 := cmpF_no m1)
                  first | (replace m2 := cmpF_yes m2) | (replace m2 := cmpF_no m2)
                  obtain ⟨m1a, m1b, m1c⟩ := m1
                  obtain ⟨m2a, m2b, m2c⟩ := m2
                  go_wp2_with (go_at_call 39; refine (in_any _ _ _).mono ?_; rintro e w1 ⟨rfl, hw1⟩; replace hw1 := hw1.symm; subst hw1)
                  go_ret
                  exact ⟨by rw [HFin.out]; rfl, HW.out⟩
            · have HA := Lib.hid (HP2.out true (allB_true (fun t ht => hall2.out t (by omega))))
              go_wp2_with fail
              exact ⟨⟨a + 1, by omega, by go_num, Lib.hid (all_step hall.out HA.out), by first | rfl | trivial⟩, by simp [intOf]; omega⟩
        · have HFin := Lib.hid (HG.out false (allB_false (t := a) (by rw [L1.out]; exact hlt) hbad))
          clear hbad
          rcases hcs with v1 | ⟨v1, v2 | ⟨v2, v3⟩⟩
          all_goals
            try (obtain ⟨v3a, v3b, v3c⟩ := cmpF_no v3; clear v3)
            go_wp2_with (go_at_call 39; refine (in_any _ _ _).mono ?_; rintro e w1 ⟨rfl, hw1⟩; replace hw1 := hw1.symm; subst hw1)
            go_ret
            exact ⟨by rw [HFin.out]; rfl, HW.out⟩
      · have HFin := Lib.hid (HG.out true (allB_true (fun t ht => hall.out t (by have := L1.out; omega))))
        go_wp2_with fail
        go_ret
        exact ⟨by rw [HFin.out]; rfl, HW.out⟩
  · have HFin := Lib.hid (show pricesB ins del rep s u = false from by
      refine bnot fun h => hg ?_
      simp only [pricesB, Bool.and_eq_true, decide_eq_true_eq, L1.out, L2.out, L3.out] at h
      exact ⟨h.1.1.1.1, h.1.1.1.2, h.1.1.2, h.1.2⟩)
    have hor : ¬ (n2 : Int) = (n1 : Int) ∨ ((n2 : Int) = (n1 : Int) ∧ ¬ (n3 : Int) = (n1 : Int)) ∨ ((n2 : Int) = (n1 : Int) ∧ (n3 : Int) = (n1 : Int) ∧ bw 0 s = false) ∨ ((n2 : Int) = (n1 : Int) ∧ (n3 : Int) = (n1 : Int) ∧ bw 0 s = true ∧ bw 1 u = false) := by
      by_cases h1 : n2 = n1
      · by_cases h2 : n3 = n1
        · cases h3 : bw 0 s with
          | false => exact .inr (.inr (.inl ⟨by omega, by omega, rfl⟩))
          | true => exact .inr (.inr (.inr ⟨by omega, by omega, rfl, bnot fun h4 => hg ⟨h1, h2, h3, h4⟩⟩))
        · exact .inr (.inl ⟨by omega, by omega⟩)
      · exact .inl (by omega)
    clear hg
    rcases hor with h1 | ⟨h1, h2⟩ | ⟨h1, h2, h3⟩ | ⟨h1, h2, h3, h4⟩
    all_goals
      first | (obtain ⟨h1a, h1b, h1c⟩ := cmpF_yes h1; clear h1) | (obtain ⟨h1a, h1b, h1c⟩ := cmpF_no h1; clear h1)
      try (first | (obtain ⟨h2a, h2b, h2c⟩ := cmpF_yes h2; clear h2) | (obtain ⟨h2a, h2b, h2c⟩ := cmpF_no h2; clear h2))
      go_enter Try.func27, Try.ntmps27
      go_wp2_with (go_at_call 39; refine (in_any _ _ _).mono ?_; rintro e w1 ⟨rfl, hw1⟩; replace hw1 := hw1.symm; subst hw1)
      go_ret
      exact ⟨by rw [HFin.out]; rfl, HW.out⟩
end Go.Proofs.Ytagmpbgidooibaa
