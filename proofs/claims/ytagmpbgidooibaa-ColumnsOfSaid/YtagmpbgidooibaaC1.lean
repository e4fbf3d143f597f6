/-
  Columns: how one lies in memory; its validity as plain mathematics, and as the program and the reference have it.
-/
import Derived.Test.YtagmpbgidooibaaOrders
import Derived.Test.YtagmpbgidooibaaMem
import Derived.Test.YtagmpbgidooibaaProg
import Derived.Handy
import Derived.Deep.RegionHeld
import Derived.LoopTactic
import Derived.WalkKit
import Derived.WalkSpells
import Derived.WalkLawsBesides
import Derived.BigQuiet
namespace Go.Proofs.Ytagmpbgidooibaa
open Go.RowKit
attribute [local go_sem] Oper.lit fut_fut fut_drew World.cell?_alloc_some
/-- a column, and where its prices of reading lie -/
structure CC where
  kd : Int
  r : List Int
  d : Int
  A : Option Addr
  k : Nat
def encC (c : CC) : List Value := [.int .i64 c.kd, .slice c.A c.r.length c.k, .int .i64 c.d]
abbrev cv (c : CC) : Value := .agg #[.int .i64 c.kd, .slice c.A c.r.length c.k, .int .i64 c.d]
def RdC (w : World) (A : Option Addr) (cs : List CC) : Prop := RdS w A 3 encC cs ∧ ∀ c ∈ cs, Rd1 w c.A (.int .i64 ·) c.r ∧ c.r.length ≤ maxLen
theorem RdC.fut {w w' : World} {A : Option Addr} {cs : List CC} (h : RdC w A cs) (hf : Fut w w') : RdC w' A cs :=
  ⟨h.1.fut hf, fun c hc => ⟨(h.2 c hc).1.fut hf, (h.2 c hc).2⟩⟩
def lg (x : Int) : Bool := decide (1 ≤ x) && decide (x ≤ 60000)
def okP (kd : Int) (t : Nat) (x : Int) : Bool := if (t : Int) = kd then decide (x = 0) else decide (x = -1) || lg x
def allB (n : Nat) (p : Nat → Bool) : Bool := (List.range n).all p
def gi (l : List Int) (k : Nat) : Int := l.getD k 0
def okD (d : Int) : Bool := lg d || decide (d = 1099511627776)
def colB (T : Int) (c : CC) : Bool := decide (-1 ≤ c.kd) && decide (c.kd < T) && decide ((c.r.length : Int) = T) && okD c.d && allB c.r.length (fun t => okP c.kd t (gi c.r t))
theorem allB_true {n : Nat} {p : Nat → Bool} (h : ∀ t, t < n → p t = true) : allB n p = true := List.all_eq_true.2 (fun t ht => h t (List.mem_range.1 ht))
theorem allB_false {n t : Nat} {p : Nat → Bool} (ht : t < n) (h : p t = false) : allB n p = false := List.all_eq_false.2 ⟨t, List.mem_range.2 ht, by simp [h]⟩
theorem allB_get {n : Nat} {p : Nat → Bool} (h : allB n p = true) (t : Nat) (ht : t < n) : p t = true := List.all_eq_true.1 h t (List.mem_range.2 ht)
theorem gi_get {l : List Int} {k : Nat} {x : Int} (h : l[k]? = some x) : gi l k = x := by simp [gi, List.getD, h]
theorem get_lt {α : Type} {l : List α} {k n : Nat} (hl : l.length = n) (hk : k < n) : ∃ x, l[k]? = some x := ⟨_, List.getElem?_eq_getElem (by omega)⟩
theorem all_step {p : Nat → Bool} {j : Nat} (h : ∀ t, t < j → p t = true) (hp : p j = true) : ∀ t, t < j + 1 → p t = true := fun t ht => by
  by_cases e : t = j
  · rw [e]; exact hp
  · exact h t (by omega)
theorem large_any (x : Int) (w : World) : Calls Try.prog 22 #[.int .i64 x] w fun e w' => e = .returned (.bool (lg x)) ∧ w' = w := by
  go_enter Try.func22, Try.ntmps22
  go_wp2
  all_goals
    go_returns
    refine ⟨?_, rfl⟩
    first | rfl | (simp_all [lg]; try omega)
/-- a comparison told in the ways that the walk may ask for it -/
theorem cmpF_yes {a b : Int} (h : a = b) : ((a = b) = True) ∧ (a == b) = true ∧ (a != b) = false := by subst h; simp
theorem cmpF_no {a b : Int} (h : ¬ a = b) : ((a = b) = False) ∧ (a == b) = false ∧ (a != b) = true := by simp [h]
theorem lg_iff (x : Int) : lg x = true ↔ 1 ≤ x ∧ x ≤ 60000 := by simp [lg]
set_option maxHeartbeats 3200000 in
theorem validColumn_any (T kd d : Int) (r : List Int) (A : Option Addr) (k : Nat) (w : World) (hR : Rd1 w A (.int .i64 ·) r) (hl : r.length ≤ maxLen) :
    Calls Try.prog 37 #[.agg #[.int .i64 kd, .slice A r.length k, .int .i64 d], .int .i64 T] w fun e w' => e = .returned (.bool (colB T ⟨kd, r, d, A, k⟩)) ∧ Below w.heap.size w w' := by
  have hl' : r.length ≤ 9223372036854775807 := hl
  have HW := Lib.hid ((Fut.refl w).alloc (.cells #[.int .i64 kd, .slice A r.length k, .int .i64 d] 51))
  have q0 : (w.alloc (.cells #[.int .i64 kd, .slice A r.length k, .int .i64 d] 51)).cell? ⟨w.heap.size, 0, none⟩ = some (.int .i64 kd) := by (repeat (first | exact (cell_al_new _ _ _ _ _ _ (by first | rfl | (simp only [World.size_alloc]))).trans rfl | refine (cell_al_old _ _ _ (by first | omega | (simp only [World.size_alloc]; omega))).trans ?_))
  have q1 : (w.alloc (.cells #[.int .i64 kd, .slice A r.length k, .int .i64 d] 51)).cell? ⟨w.heap.size, 1, none⟩ = some (.slice A r.length k) := by (repeat (first | exact (cell_al_new _ _ _ _ _ _ (by first | rfl | (simp only [World.size_alloc]))).trans rfl | refine (cell_al_old _ _ _ (by first | omega | (simp only [World.size_alloc]; omega))).trans ?_))
  have q2 : (w.alloc (.cells #[.int .i64 kd, .slice A r.length k, .int .i64 d] 51)).cell? ⟨w.heap.size, 2, none⟩ = some (.int .i64 d) := by (repeat (first | exact (cell_al_new _ _ _ _ _ _ (by first | rfl | (simp only [World.size_alloc]))).trans rfl | refine (cell_al_old _ _ _ (by first | omega | (simp only [World.size_alloc]; omega))).trans ?_))
  have HR := Lib.hid (hR.fut HW.out)
  clear hR hl
  by_cases hg : (-1 ≤ kd ∧ kd < T) ∧ (r.length : Int) = T ∧ okD d = true
  · obtain ⟨⟨g1, g2⟩, rfl, g4⟩ := hg
    have HG := Lib.hid (show ∀ b, allB r.length (fun t => okP kd t (gi r t)) = b → colB (r.length : Int) ⟨kd, r, d, A, k⟩ = b from fun b hb => by simp only [colB, g1, g2, g4, hb]; simp)
    have hor : lg d = true ∨ (lg d = false ∧ d = 1099511627776) := by
      cases h : lg d with
      | true => exact .inl rfl
      | false => exact .inr ⟨rfl, by simpa [okD, h] using g4⟩
    clear g4
    rcases hor with h1 | ⟨h1, h2⟩
    all_goals
      try (obtain ⟨h2a, h2b, h2c⟩ := cmpF_yes h2; clear h2)
      go_enter Try.func37, Try.ntmps37
      go_wp2_with (go_at_call 22; refine (large_any _ _).mono ?_; rintro e w1 ⟨rfl, rfl⟩)
      generalize w.alloc (.cells #[.int .i64 kd, .slice A r.length k, .int .i64 d] 51) = wb at *
      go_loopw [37] (fun i wr => ∃ j : Nat, j ≤ r.length ∧ i = .int .i64 j ∧ Hid (∀ t, t < j → okP kd t (gi r t) = true) ∧ wr = wb) (fun i _ => r.length - (intOf i).toNat)
      case atStart => exact ⟨0, Nat.zero_le _, rfl, Lib.hid (fun t h => absurd h (Nat.not_lt_zero _)), rfl⟩
      case round =>
        obtain ⟨j, hj, rfl, hall, rfl⟩ := hrel
        by_cases hlt : j < r.length
        · obtain ⟨x, hx⟩ := get_lt rfl hlt
          obtain ⟨b, o, rfl, hc⟩ := HR.out j x hx
          have HX := Lib.hid (gi_get hx)
          clear hx
          have hcase : (okP kd j x = true ∧ ((j : Int) = kd ∧ x = 0 ∨ ¬ (j : Int) = kd ∧ (x = -1 ∨ ¬ x = -1 ∧ lg x = true))) ∨ (okP kd j x = false ∧ ((j : Int) = kd ∧ ¬ x = 0 ∨ ¬ (j : Int) = kd ∧ ¬ x = -1 ∧ lg x = false)) := by
            unfold okP
            by_cases e : (j : Int) = kd
            · by_cases e0 : x = 0 <;> simp [e, e0]
            · by_cases e0 : x = -1
              · simp [e, e0]
              · cases h : lg x <;> simp [e, e0]
          rcases hcase with ⟨hok, hcs⟩ | ⟨hok, hcs⟩
          · have HOK := Lib.hid hok
            clear hok
            rcases hcs with ⟨e1, e2⟩ | ⟨e1, e2 | ⟨e2, e3⟩⟩
            all_goals
              first | (replace e1 := cmpF_yes e1) | (replace e1 := cmpF_no e1)
              first | (replace e2 := cmpF_yes e2) | (replace e2 := cmpF_no e2)
              obtain ⟨e1a, e1b, e1c⟩ := e1
              obtain ⟨e2a, e2b, e2c⟩ := e2
              go_wp2_with (go_at_call 22; refine (large_any _ _).mono ?_; rintro e w1 ⟨rfl, rfl⟩)
              exact ⟨⟨j + 1, by omega, by go_num, Lib.hid (all_step hall.out (by rw [HX.out]; exact HOK.out)), by first | rfl | trivial⟩, by simp [intOf]; omega⟩
          · have HFin := Lib.hid (HG.out false (allB_false hlt (by rw [HX.out]; exact hok)))
            clear hok
            rcases hcs with ⟨e1, e2⟩ | ⟨e1, e2, e3⟩
            all_goals
              first | (replace e1 := cmpF_yes e1) | (replace e1 := cmpF_no e1)
              first | (replace e2 := cmpF_yes e2) | (replace e2 := cmpF_no e2)
              obtain ⟨e1a, e1b, e1c⟩ := e1
              obtain ⟨e2a, e2b, e2c⟩ := e2
              go_wp2_with (go_at_call 22; refine (large_any _ _).mono ?_; rintro e w1 ⟨rfl, rfl⟩)
              go_ret
              exact ⟨by rw [HFin.out]; rfl, HW.out⟩
        · have HFin := Lib.hid (HG.out true (allB_true (fun t ht => hall.out t (by omega))))
          go_wp2_with fail
          go_ret
          exact ⟨by rw [HFin.out]; rfl, HW.out⟩
  · have HFin := Lib.hid (show colB T ⟨kd, r, d, A, k⟩ = false by
      cases h : colB T ⟨kd, r, d, A, k⟩ with
      | false => rfl
      | true =>
        simp only [colB, Bool.and_eq_true, decide_eq_true_eq] at h
        exact absurd ⟨⟨h.1.1.1.1, h.1.1.1.2⟩, h.1.1.2, h.1.2⟩ hg)
    have hor : kd < -1 ∨ (¬ kd < -1 ∧ T ≤ kd) ∨ (¬ kd < -1 ∧ kd < T ∧ ¬ (r.length : Int) = T) ∨ (¬ kd < -1 ∧ kd < T ∧ (r.length : Int) = T ∧ lg d = false ∧ ¬ d = 1099511627776) := by
      by_cases h1 : kd < -1
      · exact .inl h1
      by_cases h2 : T ≤ kd
      · exact .inr (.inl ⟨h1, h2⟩)
      by_cases h3 : (r.length : Int) = T
      · refine .inr (.inr (.inr ⟨h1, by omega, h3, ?_⟩))
        have h4 : ¬ okD d = true := fun h4 => hg ⟨⟨by omega, by omega⟩, h3, h4⟩
        simp only [okD, Bool.or_eq_true, not_or, decide_eq_true_eq] at h4
        exact ⟨by simpa using h4.1, by simpa using h4.2⟩
      · exact .inr (.inr (.inl ⟨h1, by omega, h3⟩))
    clear hg
    rcases hor with h1 | ⟨h1, h2⟩ | ⟨h1, h2, h3⟩ | ⟨h1, h2, h3, h4, h5⟩
    all_goals
      try (obtain ⟨h5a, h5b, h5c⟩ := cmpF_no h5; clear h5)
      try (first | (obtain ⟨h3a, h3b, h3c⟩ := cmpF_yes h3; clear h3) | (obtain ⟨h3a, h3b, h3c⟩ := cmpF_no h3; clear h3))
      go_enter Try.func37, Try.ntmps37
      go_wp2_with (go_at_call 22; refine (large_any _ _).mono ?_; rintro e w1 ⟨rfl, rfl⟩)
      go_ret
      exact ⟨by rw [HFin.out]; rfl, HW.out⟩
end Go.Proofs.Ytagmpbgidooibaa
