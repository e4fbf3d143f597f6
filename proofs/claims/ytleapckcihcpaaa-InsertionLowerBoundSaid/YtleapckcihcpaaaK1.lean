/-
  Values of derivations in memory; Less, Combine.
-/
import Derived.Test.YtleapckcihcpaaaKyp
import Derived.Test.YtleapckcihcpaaaBlk
namespace Go.Proofs.Ytleapckcihcpaaa
open Go.RowKit PK
attribute [local go_sem] Oper.lit Oper.litS fut_fut fut_drew World.cell?_alloc_some
abbrev vv (a : VV) : Value := .agg #[.int .i64 a.c, .int .i64 a.s]
def encV (a : VV) : List Value := [.int .i64 a.c, .int .i64 a.s]
abbrev cv (n : Int) (a : VV) : Value := .agg #[.int .i64 n, .int .i64 a.c, .int .i64 a.s]
theorem ltV_1 {a b : VV} (h : a.c < b.c) : ltV a b = true := by simp [ltV, h]
theorem ltV_2 {a b : VV} (h : b.c < a.c) : ltV a b = false := by simp [ltV]; omega
theorem ltV_3 {a b : VV} (h : a.c = b.c) : ltV a b = decide (a.s < b.s) := by simp [ltV, h]
set_option maxHeartbeats 1600000 in
theorem less_any (a b : VV) (w : World) : Calls Try.prog 41 #[vv a, vv b] w fun e w' => e = .returned (.bool (ltV a b)) ∧ Below w.heap.size w w' := by
  obtain ⟨ac, a2⟩ := a
  obtain ⟨bc, b2⟩ := b
  go_enter Try.func41, Try.ntmps41
  go_wp2
  all_goals
    go_returns
    refine ⟨?_, ((Fut.refl _).alloc _).alloc _⟩
    first | rfl | (simp_all [ltV]; try omega)
set_option maxHeartbeats 1600000 in
theorem rless_any (a b : VV) (w : World) : Calls Try.prog 23 #[vv a, vv b] w fun e w' => e = .returned (.bool (ltV a b)) ∧ Below w.heap.size w w' := by
  obtain ⟨ac, a2⟩ := a
  obtain ⟨bc, b2⟩ := b
  go_enter Try.func23, Try.ntmps23
  go_wp2
  all_goals
    go_returns
    refine ⟨?_, ((Fut.refl _).alloc _).alloc _⟩
    first | rfl | (simp_all [ltV]; try omega)
theorem cless_any (n m : Int) (a b : VV) (w : World) : Calls Try.prog 40 #[cv n a, cv m b] w fun e w' => e = .returned (.bool (ltV a b)) ∧ Below w.heap.size w w' := by
  obtain ⟨ac, a2⟩ := a
  obtain ⟨bc, b2⟩ := b
  go_enter Try.func40, Try.ntmps40
  go_wp2_with fail
  refine (less_any ⟨ac, a2⟩ ⟨bc, b2⟩ _).mono ?_
  rintro e w1 ⟨rfl, hb⟩
  have hb' := Lib.hid (show Fut w w1 from (((Fut.refl _).alloc _).alloc _).trans hb)
  go_wp2_with fail
  go_ret
  exact ⟨rfl, hb'.out⟩
theorem comb_res : Try.f54.results = #[.cell 4 40] := by kernel_rfl
theorem rcomb_res : Try.f25.results = #[.cell 4 40] := by kernel_rfl
theorem minG {p q : Int} : (if p < q then p else q) = min p q := by split <;> omega
/-- the values so far -/
def foldV (cost : Int) (l : List VV) : Int × Int := l.foldl combG (cost, 1)
theorem foldV_succ {cost : Int} {l : List VV} {j : Nat} {v : VV} (h : l[j]? = some v) : foldV cost (l.take (j + 1)) = combG (foldV cost (l.take j)) v := by
  unfold foldV
  rw [List.take_add_one, h, List.foldl_append]; rfl
theorem foldV_bd {cost : Int} {l : List VV} (hc : 0 ≤ cost ∧ cost ≤ INF) (hl : ∀ v ∈ l, okV v) (j : Nat) : (0 ≤ (foldV cost (l.take j)).1 ∧ (foldV cost (l.take j)).1 ≤ INF) ∧ 0 ≤ (foldV cost (l.take j)).2 ∧ (foldV cost (l.take j)).2 ≤ INF := by
  have := fold_bd (l.take j) (cost, 1) (fun v hv => hl v (List.mem_of_mem_take hv)) hc.1 hc.2 (by simp) (show (1 : Int) ≤ INF by unfold INF; decide)
  unfold foldV
  simp only at this
  omega
end Go.Proofs.Ytleapckcihcpaaa
