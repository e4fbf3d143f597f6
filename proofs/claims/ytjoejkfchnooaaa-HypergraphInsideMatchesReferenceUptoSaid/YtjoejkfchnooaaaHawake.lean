/-
  The examples of the document hold.
-/
import Derived.Test.YtjoejkfchnooaaaHinsI
namespace Go.Proofs.Ytjoejkfchnooaaa
open Go.RowKit
attribute [local go_sem] Oper.lit Oper.litS fut_fut fut_drew World.cell?_alloc_some
def exE (A1 A2 A3 : Option Addr) : List EI := [⟨1, [], 0, 0, 0, none, 0⟩, ⟨2, [1], 0, 0, 0, A1, 1⟩, ⟨2, [1, 1], 0, 0, 0, A2, 2⟩, ⟨0, [2, 1], 0, 0, 0, A3, 2⟩]
theorem ex_valid (A1 A2 A3 : Option Addr) : validB 3 (exE A1 A2 A3) = true := by simp [validB, okE, inB', exE]
theorem ex_ord (A1 A2 A3 : Option Addr) : ordS (exE A1 A2 A3) 3 = some [1, 2, 0] := by rfl
theorem ex_sum (A1 A2 A3 : Option Addr) : sumT (exE A1 A2 A3) 4 ≤ 2000000 := by
  have : sumT (exE A1 A2 A3) 4 = 5 := by rfl
  omega
theorem ex_ins (A1 A2 A3 : Option Addr) : (List.range 3).map (insO (0 : Int) 0 (fun a b => a * b % 65536) (fun a b => (a + b) % 65536) (exE A1 A2 A3) [1, 1, 1, 1] 4 [1, 2, 0]) = [2, 1, 2] := by rfl
theorem ex_der (A1 A2 A3 : Option Addr) : derL (exE A1 A2 A3) 3 = [true, true, true] := by
  have h1 : Der (exE A1 A2 A3) 1 := Der.mk (es := exE A1 A2 A3) 0 (by simp [exE]) (fun t ht => by simp [tl, exE] at ht)
  have h2 : Der (exE A1 A2 A3) 2 := Der.mk (es := exE A1 A2 A3) 1 (by simp [exE]) (fun t ht => by simp [tl, exE] at ht; subst ht; exact h1)
  have h0 : Der (exE A1 A2 A3) 0 := Der.mk (es := exE A1 A2 A3) 3 (by simp [exE]) (fun t ht => by
    simp [tl, exE] at ht
    rcases ht with rfl | rfl
    · exact h2
    · exact h1)
  rw [derL_eq (O := fun _ => true)]
  · rfl
  · intro i hi
    match i with
    | 0 => simpa using h0
    | 1 => simpa using h1
    | 2 => simpa using h2
    | n + 3 => omega
theorem ex_reach (A1 A2 A3 : Option Addr) : reachL (exE A1 A2 A3) 3 2 = [false, true, true] := by
  have h2 : Rch (exE A1 A2 A3) 2 2 := .root
  have h1 : Rch (exE A1 A2 A3) 2 1 := Rch.step (es := exE A1 A2 A3) (t := 1) h2 (show (⟨2, [1], 0, 0, 0, A1, 1⟩ : EI) ∈ exE A1 A2 A3 by simp [exE]) rfl (by simp)
  unfold reachL
  rw [if_pos (by decide)]
  show rchL (exE A1 A2 A3) 2 3 = _
  rw [rchL_eq (O := fun i => i == 1 || i == 2)]
  · rfl
  · intro i
    constructor
    · intro h
      simp only [Bool.or_eq_true, beq_iff_eq] at h
      rcases h with rfl | rfl
      · exact h1
      · exact h2
    · intro h
      induction h with
      | root => rfl
      | step hv he hh ht ih =>
        simp only [Bool.or_eq_true, beq_iff_eq] at ih
        simp only [exE, List.mem_cons, List.not_mem_nil, or_false] at he
        rcases he with rfl | rfl | rfl | rfl
        · simp at ht
        · simp at ht; subst ht; rfl
        · simp at ht; subst ht; rfl
        · simp at hh; omega
theorem rd_block {α : Type} {f : α → Value} {w : World} {b : Nat} {cs : Array Value} {t : TypeId} {fr : Nat × Nat} (h : w.heap[b]? = some (.cells cs t fr)) (l : List α) (hl : cs = (l.map f).toArray) : Rd1 w (some ⟨b, 0, none⟩) f l := by
  intro i a hi
  refine ⟨b, 0, rfl, ?_⟩
  rw [Nat.zero_add, cell_of_row w b i cs t fr h, hl]
  simp [hi]
theorem rdS_block {α : Type} {sz : Nat} {f : α → List Value} {w : World} {b : Nat} {cs : Array Value} {t : TypeId} {fr : Nat × Nat} (hf : ∀ a, (f a).length = sz) (h : w.heap[b]? = some (.cells cs t fr)) (l : List α) (hl : cs = (l.flatMap f).toArray) : RdS w (some ⟨b, 0, none⟩) sz f l := by
  intro i a hi
  refine ⟨b, 0, rfl, fun j u hj hu => ?_⟩
  rw [Nat.zero_add, cell_of_row w b _ cs t fr h, hl]
  have := flat_get f sz hf l i a j hi hj
  simpa [this] using hu
theorem blk_at {w : World} (o : Obj) {b : Nat} (h : w.heap.size = b) : (w.alloc o).heap[b]? = some o := by rw [← h]; exact heap_alloc_new w o
theorem example_any (w : World) : Calls Try.prog 28 #[] w fun e w' => ∃ A A1 A2 A3, e = .returned (hv 3 A 4 4) ∧ RdE w' A (exE A1 A2 A3) ∧ Below w.heap.size w w' := by
  go_enter Try.func28, Try.ntmps28
  go_wp2
  go_returns
  refine ⟨some ⟨w.heap.size + 1 + 1 + 1 + 1, 0, none⟩, some ⟨w.heap.size + 1, 0, none⟩, some ⟨w.heap.size + 1 + 1, 0, none⟩, some ⟨w.heap.size + 1 + 1 + 1, 0, none⟩, rfl, ⟨?_, ?_⟩, (((((Fut.refl w).alloc _).alloc _).alloc _).alloc _).alloc _⟩
  · exact rdS_block (sz := 5) (f := encE) (fun a => rfl) (blk_at _ (by simp only [World.size_alloc])) _ rfl
  · have h1 : ∀ (w : World) (o : Obj) (k : Nat) (x : Obj), w.heap[k]? = some x → (w.alloc o).heap[k]? = some x := fun w o k x h => (Below.heap_alloc w o k (Array.getElem?_eq_some_iff.1 h).1).trans h
    intro e he
    simp only [exE, List.mem_cons, List.not_mem_nil, or_false] at he
    rcases he with rfl | rfl | rfl | rfl
    · exact ⟨Rd1.nil, by decide⟩
    · exact ⟨rd_block (h1 _ _ _ _ (h1 _ _ _ _ (h1 _ _ _ _ (blk_at _ (by simp only [World.size_alloc]))))) _ rfl, by show (1 : Nat) ≤ maxLen; decide⟩
    · exact ⟨rd_block (h1 _ _ _ _ (h1 _ _ _ _ (blk_at _ (by simp only [World.size_alloc])))) _ rfl, by show (2 : Nat) ≤ maxLen; decide⟩
    · exact ⟨rd_block (h1 _ _ _ _ (blk_at _ (by simp only [World.size_alloc]))) _ rfl, by show (2 : Nat) ≤ maxLen; decide⟩
theorem natZero_any (w : World) : Calls Try.prog 53 #[uu] w fun e w' => e = .returned (.int .i64 0) ∧ Below w.heap.size w w' := by
  go_enter Try.func53, Try.ntmps53
  go_wp2
  all_goals
    go_returns
    refine ⟨?_, by go_grown⟩
    first | rfl | (simp_all; try omega)
theorem natAdd_any (a b : Int) (w : World) (ha : 0 ≤ a ∧ a < 65536) (hb : 0 ≤ b ∧ b < 65536) : Calls Try.prog 50 #[uu, .int .i64 a, .int .i64 b] w fun e w' => e = .returned (.int .i64 ((a + b) % 65536)) ∧ Below w.heap.size w w' := by
  have hw1 : IntKind.i64.wrap (a + b) = a + b := IntWalk.i64_in _ ⟨by omega, by omega⟩
  have hw2 : wrap64 (a + b) = a + b := IntWalk.wrap64_in _ ⟨by omega, by omega⟩
  go_enter Try.func50, Try.ntmps50
  go_wp2
  all_goals
    go_returns
    exact ⟨rfl, by go_grown⟩
theorem natMul_any (a b : Int) (w : World) (ha : 0 ≤ a ∧ a < 65536) (hb : 0 ≤ b ∧ b < 65536) : Calls Try.prog 51 #[uu, .int .i64 a, .int .i64 b] w fun e w' => e = .returned (.int .i64 (a * b % 65536)) ∧ Below w.heap.size w w' := by
  have hm : 0 ≤ a * b ∧ a * b ≤ 4294967296 := by
    refine ⟨Int.mul_nonneg ha.1 hb.1, ?_⟩
    have := Int.mul_le_mul (show a ≤ 65536 by omega) (show b ≤ 65536 by omega) hb.1 (by omega)
    omega
  have hw1 : IntKind.i64.wrap (a * b) = a * b := IntWalk.i64_in _ ⟨by omega, by omega⟩
  have hw2 : wrap64 (a * b) = a * b := IntWalk.wrap64_in _ ⟨by omega, by omega⟩
  go_enter Try.func51, Try.ntmps51
  go_wp2
  all_goals
    go_returns
    exact ⟨rfl, by go_grown⟩
theorem m_nat_Zero (w : World) : (method 190 42 uu "Zero").run Try.prog w = .ok (53, uu) w := by kernel_rfl
theorem c_nat_Zero (args : Array Value) (w : World) : (callFunc 53 args).run Try.prog w = .ok (.enter 53 args) w := by kernel_rfl
theorem m_nat_Mul (w : World) : (method 190 42 uu "Mul").run Try.prog w = .ok (51, uu) w := by kernel_rfl
theorem c_nat_Mul (args : Array Value) (w : World) : (callFunc 51 args).run Try.prog w = .ok (.enter 51 args) w := by kernel_rfl
theorem m_nat_Add (w : World) : (method 190 42 uu "Add").run Try.prog w = .ok (50, uu) w := by kernel_rfl
theorem c_nat_Add (args : Array Value) (w : World) : (callFunc 50 args).run Try.prog w = .ok (.enter 50 args) w := by kernel_rfl
theorem n_nat_Mul (w : World) : (nilAhead 190 42 uu "Mul").run Try.prog w = .ok (some false) w := by kernel_rfl
abbrev mulN (a b : Int) : Int := a * b % 65536
abbrev addN (a b : Int) : Int := (a + b) % 65536
theorem inside_nat (N : Nat) (A B : Option Addr) (n c d : Nat) (es : List EI) (ws : List Int) (w : World) (hl : es.length = n) (hwl : ws.length = n) (hn : n ≤ 1000) (hval : validB N es = true) (htot : sumT es n ≤ 2000000) (hR : RdE w A es) (hRw : Rd1 w B (.int .i64 ·) ws) (hwI : ∀ x ∈ ws, 0 ≤ x ∧ x < 65536) :
    Calls Try.prog 23 #[hv N A n c, .iface 42 uu, .slice B n d] w fun e w' => InsRes (Value.int .i64) w' e N (insO 0 0 mulN addN es ws n) (ordS es N) ∧ Below w.heap.size w w' :=
  insideI_any 42 53 51 50 0 mulN addN (fun x => 0 ≤ x ∧ x < 65536) m_nat_Zero m_nat_Mul n_nat_Mul m_nat_Add c_nat_Zero c_nat_Mul c_nat_Add natZero_any (fun a b w ha hb => natMul_any a b w ha hb) (fun a b w ha hb => natAdd_any a b w ha hb)
    (by decide) (by decide) (fun a b _ _ => ⟨Int.emod_nonneg _ (by decide), Int.emod_lt_of_pos _ (by decide)⟩) (fun a b _ _ => ⟨Int.emod_nonneg _ (by decide), Int.emod_lt_of_pos _ (by decide)⟩) N A B n c d es ws w hl hwl hn hval htot hR hRw hwI
theorem rd_cast {w : World} {A : Option Addr} {l : List Nat} (h : Rd1 w A nv l) : Rd1 w A (.int .i64 ·) (l.map (fun x : Nat => (x : Int))) := by
  intro i x hx
  rw [List.getElem?_map] at hx
  obtain ⟨y, hy, rfl⟩ := Option.map_eq_some_iff.1 hx
  exact h i y hy
set_option maxHeartbeats 6400000 in
theorem awake_any (w : World) : Calls Try.prog 11 #[] w fun e w' => e = .returned (.bool true) ∧ Below w.heap.size w w' := by
  have hml : (4 : Nat) ≤ maxLen ∧ (3 : Nat) ≤ maxLen ∧ (0 : Nat) ≤ maxLen := by decide
  go_enter Try.func11, Try.ntmps11
  go_wp2_with (first
    | (go_at_call 28; refine (example_any _).mono ?_; rintro e w1 ⟨A, A1, A2, A3, rfl, hR, hb1⟩; have HR := Lib.hid hR; have f1 : Fut w w1 := hb1; clear hR hb1; have x0 : (w1.alloc (.cells #[.int .i64 3, .slice A 4 4] 24)).cell? ⟨w1.heap.size, 0, none⟩ = some (.int .i64 3) := (by (first | (with_reducible assumption) | ((try simp (disch := first | (simp only [World.size_alloc, World.size_drew, World.size_setCell]; done) | (simp only [World.size_alloc, World.size_drew, World.size_setCell]; omega) | omega) only [cell_al_new, cell_al_old, cell_dr]); first | (with_reducible assumption) | rfl | (simp; done)))); have x1 : (w1.alloc (.cells #[.int .i64 3, .slice A 4 4] 24)).cell? ⟨w1.heap.size, 1, none⟩ = some (.slice A 4 4) := (by (first | (with_reducible assumption) | ((try simp (disch := first | (simp only [World.size_alloc, World.size_drew, World.size_setCell]; done) | (simp only [World.size_alloc, World.size_drew, World.size_setCell]; omega) | omega) only [cell_al_new, cell_al_old, cell_dr]); first | (with_reducible assumption) | rfl | (simp; done)))))
    | (go_at_call 20; refine (order_any 3 A 4 4 (exE A1 A2 A3) _ rfl (by decide) (by decide) (valid_parts (ex_valid A1 A2 A3)).2.2.1 (valid_parts (ex_valid A1 A2 A3)).2.2.2 (ex_sum A1 A2 A3) (HR.out.fut ((Fut.refl _).alloc _))).mono ?_; rintro e w2 ⟨he, hb2⟩; rw [ex_ord] at he; obtain ⟨oA, oc, rfl, hol⟩ := he; have f2 : Fut _ w2 := hb2; have HOL := Lib.hid hol; have y0 := f2.cell x0; have y1 := f2.cell x1; clear hol hb2)
    | (go_at_call 23; refine (inside_nat 3 A (some ⟨w2.heap.size, 0, none⟩) 4 4 4 (exE A1 A2 A3) [1, 1, 1, 1] _ rfl rfl (by decide) (ex_valid A1 A2 A3) (ex_sum A1 A2 A3) (HR.out.fut (by show Fut _ _; repeat (first | (with_reducible assumption) | exact Fut.refl _ | exact Fut.fut _ _ _ | refine Fut.drew ?_ | refine Fut.alloc ?_ _ | refine Fut.trans ?_ (Fut.fut _ _ _) | refine Fut.trans ?_ (by assumption)))) (rd_block (blk_at _ rfl) _ rfl) (by simp)).mono ?_; rintro e w3 ⟨he, hb3⟩; rw [ex_ord] at he; obtain ⟨iB, rfl, hin⟩ := he; rw [ex_ins] at hin; have f3 : Fut _ w3 := hb3; have HIN := Lib.hid hin; have z0 := (show Fut w2 w3 from (by show Fut _ _; repeat (first | (with_reducible assumption) | exact Fut.refl _ | exact Fut.fut _ _ _ | refine Fut.drew ?_ | refine Fut.alloc ?_ _ | refine Fut.trans ?_ (Fut.fut _ _ _) | refine Fut.trans ?_ (by assumption)))).cell y0; have z1 := (show Fut w2 w3 from (by show Fut _ _; repeat (first | (with_reducible assumption) | exact Fut.refl _ | exact Fut.fut _ _ _ | refine Fut.drew ?_ | refine Fut.alloc ?_ _ | refine Fut.trans ?_ (Fut.fut _ _ _) | refine Fut.trans ?_ (by assumption)))).cell y1; clear hin hb3)
    | (go_at_call 16; refine (derive_any 3 A 4 4 (exE A1 A2 A3) _ rfl (by decide) (by decide) (valid_parts (ex_valid A1 A2 A3)).2.2.1 (valid_parts (ex_valid A1 A2 A3)).2.2.2 (ex_sum A1 A2 A3) (HR.out.fut (by show Fut _ _; repeat (first | (with_reducible assumption) | exact Fut.refl _ | exact Fut.fut _ _ _ | refine Fut.drew ?_ | refine Fut.alloc ?_ _ | refine Fut.trans ?_ (Fut.fut _ _ _) | refine Fut.trans ?_ (by assumption))))).mono ?_; rintro e w4 ⟨dB, rfl, hdv, hb4⟩; rw [ex_der] at hdv; have f4 : Fut _ w4 := hb4; have HDV := Lib.hid hdv; have u0 := f4.cell z0; have u1 := f4.cell z1; clear hdv hb4)
    | (go_at_call 18; refine (reach_any 3 2 A 4 4 (exE A1 A2 A3) _ rfl (by decide) (by decide) (valid_parts (ex_valid A1 A2 A3)).2.2.1 (valid_parts (ex_valid A1 A2 A3)).2.2.2 (HR.out.fut (by show Fut _ _; repeat (first | (with_reducible assumption) | exact Fut.refl _ | exact Fut.fut _ _ _ | refine Fut.drew ?_ | refine Fut.alloc ?_ _ | refine Fut.trans ?_ (Fut.fut _ _ _) | refine Fut.trans ?_ (by assumption))))).mono ?_; rintro e w5 ⟨rB, rfl, hrv, hb5⟩; rw [ex_reach] at hrv; have f5 : Fut _ w5 := hb5; have HRV := Lib.hid hrv; have v0 := f5.cell u0; have v1 := f5.cell u1; clear hrv hb5))
  refine (sameInts_any oA _ 3 oc 3 3 [1, 2, 0] [1, 2, 0] _ rfl rfl hml.2.1 hml.2.1 (rd_cast (HOL.out.fut (by show Fut _ _; repeat (first | (with_reducible assumption) | exact Fut.refl _ | exact Fut.fut _ _ _ | refine Fut.drew ?_ | refine Fut.alloc ?_ _ | refine Fut.trans ?_ (Fut.fut _ _ _) | refine Fut.trans ?_ (by assumption))))) (rd_block (blk_at _ rfl) _ rfl)).mono ?_
  rintro e w6 ⟨rfl, hb6⟩
  have f6 : Fut _ w6 := hb6
  clear hb6
  rw [show decide (([1, 2, 0] : List Int) = [1, 2, 0]) = true from rfl]
  go_wp2_with fail
  refine (sameInts_any (some ⟨iB, 0, none⟩) _ 3 3 3 3 [2, 1, 2] [2, 1, 2] _ rfl rfl hml.2.1 hml.2.1 (HIN.out.fut (by show Fut _ _; repeat (first | (with_reducible assumption) | exact Fut.refl _ | exact Fut.fut _ _ _ | refine Fut.drew ?_ | refine Fut.alloc ?_ _ | refine Fut.trans ?_ (Fut.fut _ _ _) | refine Fut.trans ?_ (by assumption)))) (rd_block (blk_at _ rfl) _ rfl)).mono ?_
  rintro e w7 ⟨rfl, hb7⟩
  have f7 : Fut _ w7 := hb7
  clear hb7
  rw [show decide (([2, 1, 2] : List Int) = [2, 1, 2]) = true from rfl]
  go_wp2_with fail
  refine (sameBools_any (some ⟨dB, 0, none⟩) _ 3 3 3 3 [true, true, true] [true, true, true] _ rfl rfl hml.2.1 hml.2.1 (HDV.out.fut (by show Fut _ _; repeat (first | (with_reducible assumption) | exact Fut.refl _ | exact Fut.fut _ _ _ | refine Fut.drew ?_ | refine Fut.alloc ?_ _ | refine Fut.trans ?_ (Fut.fut _ _ _) | refine Fut.trans ?_ (by assumption)))) (rd_block (blk_at _ rfl) _ rfl)).mono ?_
  rintro e w8 ⟨rfl, hb8⟩
  have f8 : Fut _ w8 := hb8
  clear hb8
  rw [show decide (([true, true, true] : List Bool) = [true, true, true]) = true from rfl]
  go_wp2_with fail
  refine (sameBools_any (some ⟨rB, 0, none⟩) _ 3 3 3 3 [false, true, true] [false, true, true] _ rfl rfl hml.2.1 hml.2.1 (HRV.out.fut (by show Fut _ _; repeat (first | (with_reducible assumption) | exact Fut.refl _ | exact Fut.fut _ _ _ | refine Fut.drew ?_ | refine Fut.alloc ?_ _ | refine Fut.trans ?_ (Fut.fut _ _ _) | refine Fut.trans ?_ (by assumption)))) (rd_block (blk_at _ rfl) _ rfl)).mono ?_
  rintro e w9 ⟨rfl, hb9⟩
  have f9 : Fut _ w9 := hb9
  clear hb9
  rw [show decide (([false, true, true] : List Bool) = [false, true, true]) = true from rfl]
  have s0 := (show Fut w5 w9 from (by show Fut _ _; repeat (first | (with_reducible assumption) | exact Fut.refl _ | exact Fut.fut _ _ _ | refine Fut.drew ?_ | refine Fut.alloc ?_ _ | refine Fut.trans ?_ (Fut.fut _ _ _) | refine Fut.trans ?_ (by assumption)))).cell v0
  have s1 := (show Fut w5 w9 from (by show Fut _ _; repeat (first | (with_reducible assumption) | exact Fut.refl _ | exact Fut.fut _ _ _ | refine Fut.drew ?_ | refine Fut.alloc ?_ _ | refine Fut.trans ?_ (Fut.fut _ _ _) | refine Fut.trans ?_ (by assumption)))).cell v1
  go_wp2_with fail
  refine (valid_any 3 A 4 4 (exE A1 A2 A3) _ rfl hml.1 (HR.out.fut (by show Fut _ _; repeat (first | (with_reducible assumption) | exact Fut.refl _ | exact Fut.fut _ _ _ | refine Fut.drew ?_ | refine Fut.alloc ?_ _ | refine Fut.trans ?_ (Fut.fut _ _ _) | refine Fut.trans ?_ (by assumption))))).mono ?_
  rintro e w10 ⟨rfl, hb10⟩
  have f10 : Fut _ w10 := hb10
  clear hb10
  rw [ex_valid]
  go_wp2_with fail
  refine (valid_any 0 none 0 0 [] _ rfl hml.2.2 ⟨RdS.nil, fun e he => by simp at he⟩).mono ?_
  rintro e w11 ⟨rfl, hb11⟩
  have f11 : Fut _ w11 := hb11
  clear hb11
  rw [show validB 0 [] = false from rfl]
  go_wp2_with fail
  go_ret
  exact ⟨rfl, (by show Fut _ _; repeat (first | (with_reducible assumption) | exact Fut.refl _ | exact Fut.fut _ _ _ | refine Fut.drew ?_ | refine Fut.alloc ?_ _ | refine Fut.trans ?_ (Fut.fut _ _ _) | refine Fut.trans ?_ (by assumption)))⟩
end Go.Proofs.Ytjoejkfchnooaaa
