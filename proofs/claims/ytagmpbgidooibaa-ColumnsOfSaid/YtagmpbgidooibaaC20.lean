/-
  The example of the document, walked.
-/
import Derived.Test.YtagmpbgidooibaaC19
import Derived.Test.YtagmpbgidooibaaC15
namespace Go.Proofs.Ytagmpbgidooibaa
open Go.RowKit Go.Deep
attribute [local go_sem] Oper.lit Oper.litS fut_fut fut_drew World.cell?_alloc_some
theorem rd_blk {w : World} {b : Nat} {t : TypeId} {l : List Int} (h : w.heap[b]? = some (.cells (l.map (Value.int .i64 ·)).toArray t (0, 0))) : Rd1 w (some ⟨b, 0, none⟩) (.int .i64 ·) l := by
  intro i a hi
  refine ⟨b, 0, rfl, ?_⟩
  rw [Nat.zero_add, cell_of_row w b i _ _ _ h, List.getElem?_toArray, List.getElem?_map, hi]
  rfl
theorem rds_blk {α : Type} {w : World} {b : Nat} {t : TypeId} {sz : Nat} {enc : α → List Value} {l : List α} (hz : ∀ a, (enc a).length = sz) (h : w.heap[b]? = some (.cells (l.flatMap enc).toArray t (0, 0))) : RdS w (some ⟨b, 0, none⟩) sz enc l := by
  intro i a hi
  refine ⟨b, 0, rfl, fun j u hj hu => ?_⟩
  rw [Nat.zero_add, cell_of_row w b _ _ _ _ h, List.getElem?_toArray, flat_get enc sz hz l i a j hi hj]
  exact hu
def exI : List Int := [3, 4]
def exD : List Int := [5, 6]
def exR (A B : Option Addr) : List RR := [⟨[0, 7], A, 2⟩, ⟨[-1, 0], B, 2⟩]
set_option maxHeartbeats 1600000 in
theorem example_any (w : World) : Calls Try.prog 21 #[] w fun e w' => (∃ A1 A2 A3 A B, e = .returned (pv A1 2 2 A2 2 2 A3 2 2 2 8) ∧ Rd1 w' A1 (.int .i64 ·) exI ∧ Rd1 w' A2 (.int .i64 ·) exD ∧ RdR w' A3 (exR A B)) ∧ Below w.heap.size w w' := by
  go_enter Try.func21, Try.ntmps21
  go_wp2_with fail
  have hfin : ∀ W : World, Fut w W → W.heap[w.heap.size]? = some (.cells #[.slice (some ⟨w.heap.size + 1, 0, none⟩) 2 2, .slice (some ⟨w.heap.size + 1 + 1, 0, none⟩) 2 2, .slice (some ⟨w.heap.size + 1 + 1 + 1 + 1 + 1, 0, none⟩) 2 2, .int .i64 2, .int .i64 8] 34 (0, 0)) → W.heap[w.heap.size + 1]? = some (.cells #[.int .i64 3, .int .i64 4] 3 (0, 0)) → W.heap[w.heap.size + 1 + 1]? = some (.cells #[.int .i64 5, .int .i64 6] 3 (0, 0)) → W.heap[w.heap.size + 1 + 1 + 1]? = some (.cells #[.int .i64 0, .int .i64 7] 3 (0, 0)) → W.heap[w.heap.size + 1 + 1 + 1 + 1]? = some (.cells #[.int .i64 (-1), .int .i64 0] 3 (0, 0)) →
      W.heap[w.heap.size + 1 + 1 + 1 + 1 + 1]? = some (.cells #[.slice (some ⟨w.heap.size + 1 + 1 + 1, 0, none⟩) 2 2, .slice (some ⟨w.heap.size + 1 + 1 + 1 + 1, 0, none⟩) 2 2] 23 (0, 0)) →
      ∀ tm : Array Value, tm.getD 0 undef = .pointer (some ⟨w.heap.size, 0, none⟩) → bodyPost Try.prog Try.f21 (fun e w' => (∃ A1 A2 A3 A B, e = .returned (pv A1 2 2 A2 2 2 A3 2 2 2 8) ∧ Rd1 w' A1 (.int .i64 ·) exI ∧ Rd1 w' A2 (.int .i64 ·) exD ∧ RdR w' A3 (exR A B)) ∧ Below w.heap.size w w') .ret ⟨tm, []⟩ W := by
    intro W hF h0 h1 h2 h3 h4 h5 tm htm
    refine bodyPost_ret (results_cell_row rfl _ _ w.heap.size _ _ _ _ htm h0 Try.underlying34 rfl (by kernel_rfl)) rfl ?_
    refine ⟨⟨_, _, _, some ⟨w.heap.size + 1 + 1 + 1, 0, none⟩, some ⟨w.heap.size + 1 + 1 + 1 + 1, 0, none⟩, rfl, rd_blk (l := exI) h1, rd_blk (l := exD) h2, rds_blk (enc := encR) (fun _ => rfl) h5, fun r hr => ?_⟩, hF⟩
    simp only [exR, List.mem_cons, List.not_mem_nil, or_false] at hr
    rcases hr with rfl | rfl
    · exact ⟨rd_blk (l := [0, 7]) h3, show (2 : Nat) ≤ maxLen by decide⟩
    · exact ⟨rd_blk (l := [-1, 0]) h4, show (2 : Nat) ≤ maxLen by decide⟩
  exact hfin _ ((((((Fut.refl w).alloc _).alloc _).alloc _).alloc _).alloc _ |>.alloc _) (by (repeat (first | exact heap_new' _ _ _ (by simp only [World.size_alloc]) | refine (blk_alloc_lt _ _ _ (by simp only [World.size_alloc]; omega)).trans ?_))) (by (repeat (first | exact heap_new' _ _ _ (by simp only [World.size_alloc]) | refine (blk_alloc_lt _ _ _ (by simp only [World.size_alloc]; omega)).trans ?_))) (by (repeat (first | exact heap_new' _ _ _ (by simp only [World.size_alloc]) | refine (blk_alloc_lt _ _ _ (by simp only [World.size_alloc]; omega)).trans ?_))) (by (repeat (first | exact heap_new' _ _ _ (by simp only [World.size_alloc]) | refine (blk_alloc_lt _ _ _ (by simp only [World.size_alloc]; omega)).trans ?_))) (by (repeat (first | exact heap_new' _ _ _ (by simp only [World.size_alloc]) | refine (blk_alloc_lt _ _ _ (by simp only [World.size_alloc]; omega)).trans ?_))) (by (repeat (first | exact heap_new' _ _ _ (by simp only [World.size_alloc]) | refine (blk_alloc_lt _ _ _ (by simp only [World.size_alloc]; omega)).trans ?_))) _ rfl
def exK : List Int := [0, -1]
def exX (A : Option Addr) : List XX := [⟨[], none, 0⟩, ⟨[(1, 9)], A, 1⟩]
def exW (A B : Option Addr) : List CC := [⟨0, [0, 7], 5, A, 2⟩, ⟨-1, [-1, 9], 8, B, 2⟩]
theorem ex_ofE (X A B : Option Addr) : ofE exK (exX X) exI exD (exR A B) 2 8 = 0 := by rfl
theorem ex_ofK (X A B C D : Option Addr) : ofK exK (exX X) exD (exR A B) 8 2 = (exW C D).map key := by rfl
theorem ex_val2 (A B : Option Addr) : validI 2 (exW A B) exI 2 = true := by rfl
theorem ex_val3 (A B : Option Addr) : validI 3 (exW A B) exI 2 = false := by rfl
theorem ex_repE (A B : Option Addr) : repE (exW A B) exI 2 0 1 0 [] = 0 := by rfl
end Go.Proofs.Ytagmpbgidooibaa
