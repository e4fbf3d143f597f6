/-
  Texts joined: Regions that draw their order: one canonical order serves every order, where what is hoisted yields the same value in every later world, and what is not hoisted only adds to memory (or comes last); A fast check of an order (numbers as sets): what the kernel reckons for a large region; Words for memory: a slice that reads as a list (of one-cell elements, of structs); rows of the call's own; all kept while memory only grows; What every law of this seat closes with: a call that returns true and turns nothing that was there meets the row; The orders of the regions that draw, one for each (found by program; checked where they are used).
-/
import Derived.Test.YtajbmdjlfniofaaDoorRows
import Derived.OrdersHeld
import Derived.Below
import Derived.WalkKit
import Derived.Lib.QuietBelow
import Derived.WalkSpells
import Derived.WalkLawsBesides
import Derived.Laws.OwnMore
import Derived.Deep.AppendLies
import Derived.Deep.Draws
import Derived.Laws.Rows
import Derived.Lib.Hide
import Derived.ProofKit
import Derived.SizedLaws
import Derived.Lib.SmallJoins
import Derived.Carry
/-
  Regions that draw their order: one canonical order serves every order, where what is hoisted yields the same value in every later world, and what is not hoisted only adds to memory (or comes last).
-/
namespace Go.Proofs.YtajbmdjlfniofaaDoor
open Go.RowKit Go.Sort

/-- w' is w with new blocks (and draws) -/
def Fut (w w' : World) : Prop := Below w.heap.size w w'
theorem Fut.refl (w : World) : Fut w w := Below.refl _ _
theorem Fut.trans {a b c : World} (h : Fut a b) (k : Fut b c) : Fut a c := Below.trans h (Below.mono k h.size)
theorem Fut.of {w w' : World} (h : Below w.heap.size w w') : Fut w w' := h
theorem Fut.below {w w' : World} (h : Fut w w') : Below w.heap.size w w' := h
theorem Fut.drew {a b : World} (h : Fut a b) : Fut a b.drew := Below.drew h
theorem Fut.alloc {a b : World} (h : Fut a b) (o : Obj) : Fut a (b.alloc o) := Below.alloc h h.size o
theorem Fut.setCell {a b : World} (h : Fut a b) {p : Addr} (hp : a.heap.size ≤ p.block) (u : Value) : Fut a (b.setCell p u) := Below.setCell h hp u
theorem Fut.cell {a b : World} (h : Fut a b) {p : Addr} {v : Value} (hv : a.cell? p = some v) : b.cell? p = some v :=
 (Below.cell h (World.block_lt_of_cell? a p hv)).trans hv

/-- operation i waits for every other one -/
def isLast (ops : Array Oper) (i : Nat) : Bool :=
 (List.range ops.size).all fun k => k == i || ((ops[i]?).map (·.after.any fun e => Region.binds .any e && e.on == k)).getD false

/-- operation a waits for b -/
def dep (ops : Array Oper) (a b : Nat) : Bool := ((ops[a]?).map (·.after.any fun e => Region.binds .any e && e.on == b)).getD false
/-- the same, by way of at most n others -/
def reachD (ops : Array Oper) : Nat → Nat → Nat → Bool
 | 0, a, b => dep ops a b
 | n + 1, a, b => dep ops a b || (List.range ops.size).any fun c => dep ops a c && reachD ops n c b
def dep3 (ops : Array Oper) (a b : Nat) : Bool := reachD ops 5 a b
/-- an operation that looks at no world -/
def insens : Op → Bool
 | .move _ => true
 | _ => false
def insensAt (ops : Array Oper) (k : Nat) : Bool := ((ops[k]?).map fun o => insens o.op).getD false
theorem insens_run {P : Program} {o : Oper} {ρ : Operand → Value} (h : insens o.op = true) {v : Value} {w w1 : World} (hr : (execOp ρ o).run P w = .ok (.value v) w1) (w' : World) : (execOp ρ o).run P w' = .ok (.value v) w' := by
 obtain ⟨dst, op, ty, pos, after, guard⟩ := o
 cases op with
 | move x =>
  simp [execOp] at hr ⊢
  exact hr.1
 | _ => cases h
/-- every other operation waits for i, or i for it, or looks at no world -/
def late (ops : Array Oper) (i : Nat) : Bool :=
 (List.range ops.size).all fun k => k == i || dep3 ops i k || dep3 ops k i || insensAt ops k
theorem late_of_last {ops : Array Oper} {i : Nat} (h : isLast ops i = true) : late ops i = true := by
 refine List.all_eq_true.2 fun k hk => ?_
 have h1 := List.all_eq_true.1 h k hk
 rw [Bool.or_eq_true] at h1 ⊢
 left
 rw [Bool.or_eq_true]
 left
 rcases h1 with h1 | h1
 ·
  rw [Bool.or_eq_true]; exact .inl h1
 ·
  rw [Bool.or_eq_true]; exact .inr (by show (dep ops i k || _) = true; rw [Bool.or_eq_true]; exact .inl h1)
/-- whatever is listed, what it waits for is listed too -/
def Closed (ops : Array Oper) (listed : Array Bool) : Prop := ∀ j, j < ops.size → listed.getD j true = true → ∀ k, dep ops j k = true → listed.getD k true = true
theorem closed_start (ops : Array Oper) : Closed ops (Array.replicate ops.size false) := by
 intro j hj h
 simp [hj] at h
theorem getD_set_mono {listed : Array Bool} {i k : Nat} (h : listed.getD k true = true) : (listed.setIfInBounds i true).getD k true = true := by
 by_cases e : i = k
 ·
  subst e
  rw [Array.getD_eq_getD_getElem?, Array.getElem?_setIfInBounds, if_pos rfl]
  by_cases hlt : i < listed.size
  ·
   rw [if_pos hlt]; rfl
  ·
   rw [if_neg hlt]; rfl
 ·
  rw [getD_set_ne true e]; exact h
theorem dep_of_ready {ops : Array Oper} {listed : Array Bool} {j k : Nat} (hj : j ∈ Region.ready .any ops listed) (hd : dep ops j k = true) : listed.getD k true = true := by
 obtain ⟨_, oj, hoj, hall⟩ := mem_ready.1 hj
 unfold dep at hd
 rw [hoj] at hd
 simp only [Option.map_some, Option.getD_some] at hd
 obtain ⟨e, he, hb⟩ := Array.any_eq_true'.1 hd
 simp only [Bool.and_eq_true, beq_iff_eq] at hb
 have h2 := hall e he hb.1
 rw [hb.2] at h2
 rcases Nat.lt_or_ge k listed.size with h' | h'
 ·
  simp [h'] at h2 ⊢; exact h2
 ·
  simp [Array.getElem?_eq_none h']
theorem Closed.set {ops : Array Oper} {listed : Array Bool} {i : Nat} (h : Closed ops listed) (hi : i ∈ Region.ready .any ops listed) : Closed ops (listed.setIfInBounds i true) := by
 intro j hj hl k hk
 refine getD_set_mono ?_
 by_cases e : i = j
 ·
  subst e; exact dep_of_ready hi hk
 ·
  rw [getD_set_ne true e] at hl
  exact h j hj hl k hk
theorem reachD_closed {ops : Array Oper} {listed : Array Bool} {k : Nat} (hc : Closed ops listed) : ∀ (n c : Nat), c < ops.size → listed.getD c true = true → reachD ops n c k = true → listed.getD k true = true
 | 0, c, hl, h, hd => hc c hl h k hd
 | n + 1, c, hl, h, hd => by
  unfold reachD at hd
  rw [Bool.or_eq_true] at hd
  rcases hd with hd | hd
  ·
   exact hc c hl h k hd
  ·
   obtain ⟨d, hdr, h3⟩ := List.any_eq_true.1 hd
   simp only [Bool.and_eq_true] at h3
   exact reachD_closed hc n d (List.mem_range.1 hdr) (hc c hl h d h3.1) h3.2
theorem dep3_of_ready {ops : Array Oper} {listed : Array Bool} {j k : Nat} (hc : Closed ops listed) (hj : j ∈ Region.ready .any ops listed) (hd : dep3 ops j k = true) : listed.getD k true = true := by
 unfold dep3 reachD at hd
 rw [Bool.or_eq_true] at hd
 rcases hd with hd | hd
 ·
  exact dep_of_ready hj hd
 ·
  obtain ⟨c, hcr, hd⟩ := List.any_eq_true.1 hd
  simp only [Bool.and_eq_true] at hd
  exact reachD_closed hc 4 c (List.mem_range.1 hcr) (dep_of_ready hj hd.1) hd.2

/-- a relation that says what the operations of a region leave as it was -/
structure RelW (R : World → World → Prop) : Prop where
 refl : ∀ w, R w w
 trans : ∀ {a b c}, R a b → R b c → R a c
 of_fut : ∀ {a b}, Fut a b → R a b
theorem relFut : RelW Fut := ⟨Fut.refl, Fut.trans, id⟩

section
variable {P : Program} {ops : Array Oper} {Q : Exit → Act → World → Prop} {b : World} {R : World → World → Prop}

/-- whatever order is picked from here on; behind each operation the world has only grown, but behind the last one -/
def wpAnyF (R : World → World → Prop) (P : Program) (ops : Array Oper) (Q : Exit → Act → World → Prop) : Nat → Array Bool → Act → World → Prop
 | 0, listed, a, w => Region.ready .any ops listed = [] ∧ Q .normal a w
 | fuel + 1, listed, a, w =>
  (Region.ready .any ops listed = [] → Q .normal a w) ∧
  ∀ i ∈ Region.ready .any ops listed, wpOp P ops Q i (fun a' w' => (late ops i = true ∨ R w w') ∧ wpAnyF R P ops Q fuel (listed.setIfInBounds i true) a' w') a w

theorem wpAny_of_F : ∀ (fuel : Nat) (listed : Array Bool) (a : Act) (w : World), wpAnyF R P ops Q fuel listed a w → wpAny P .any ops Q fuel listed a w
 | 0, _, _, _, h => h
 | fuel + 1, _, _, _, h => ⟨h.1, fun i hi => wpOp_mono (fun a' w' h' => wpAny_of_F fuel _ a' w' h'.2) (h.2 i hi)⟩

theorem not_last_of_ready {i j : Nat} {listed : Array Bool} (hc : Closed ops listed) (hne : j ≠ i) (hi : i ∈ Region.ready .any ops listed) (hj : j ∈ Region.ready .any ops listed) : late ops j = false ∨ insensAt ops i = true := by
 have key : ∀ {i : Nat}, i ∈ Region.ready .any ops listed → listed.getD i true = true → False := by
  intro i hi h
  have h0 := (mem_ready.1 hi).1
  rw [h0] at h; cases h
 cases hl : late ops j with
 | false => exact .inl rfl
 | true =>
  right
  obtain ⟨_, oi, hoi, _⟩ := mem_ready.1 hi
  have hlt : i < ops.size := (Array.getElem?_eq_some_iff.1 hoi).1
  have h1 := List.all_eq_true.1 hl i (List.mem_range.2 hlt)
  simp only [Bool.or_eq_true, beq_iff_eq] at h1
  rcases h1 with ((h1 | h1) | h1) | h1
  ·
   exact absurd h1.symm hne
  ·
   exact (key hi (dep3_of_ready hc hj h1)).elim
  ·
   exact (key hj (dep3_of_ready hc hi h1)).elim
  ·
   exact h1

theorem yieldsIf_mono {S S' : World → Prop} {o : Oper} {v : Value} {a : Act} (h : ∀ w, S' w → S w) (hy : YieldsIf P ops S o v a) : YieldsIf P ops S' o v a :=
 hy.imp (fun ⟨hw, hv⟩ => ⟨hw, fun w hs => hv w (h w hs)⟩) id

theorem yields_all {i : Nat} {oi : Oper} {v : Value} {a : Act} {S : World → Prop} {w : World} (hi : ops[i]? = some oi) (h : insensAt ops i = true) (hS : S w) (hy : YieldsIf P ops S oi v a) : YieldsIf P ops (fun _ => True) oi v a := by
 have h9 : insens oi.op = true := by unfold insensAt at h; rw [hi] at h; exact h
 exact hy.imp (fun ⟨hw, hv⟩ => ⟨hw, fun w' _ => insens_run h9 (hv w hS) w'⟩) id
theorem wpAnyF_first (hrel : RelW R) {i : Nat} {oi : Oper} {v : Value} (hi : ops[i]? = some oi) (hsel : ∀ (j : Nat) (o : Oper) cs b, ops[j]? = some o → o.op ≠ .select cs b)
  (hQ : ∀ c a w, Q (.panic c) (a.put oi.dst v) w → Q (.panic c) a w) :
  ∀ (fuel : Nat) (listed : Array Bool) (a : Act) (w : World), Closed ops listed →
   (∀ j oj, ops[j]? = some oj → j ≠ i → listed.getD j true = false → (∀ e ∈ oj.after, Region.binds .any e = true → e.on ≠ i) → oi.apart ops oj = true) →
   i ∈ Region.ready .any ops listed → YieldsIf P ops (R w) oi v a → (insensAt ops i = true → YieldsIf P ops (fun _ => True) oi v a) →
   wpAnyF R P ops Q fuel (listed.setIfInBounds i true) (a.put oi.dst v) w → wpAnyF R P ops Q (fuel + 1) listed a w := by
 intro fuel
 induction fuel with
 | zero =>
  intro listed a w _ _ hr hy _ H
  refine ⟨fun h => (by rw [h] at hr; cases hr), fun j hj => ?_⟩
  by_cases hji : j = i
  ·
   subst hji; exact hy.wpOp hi (hrel.refl w) ⟨.inr (hrel.refl w), H⟩
  ·
   have := ready_mono hj hji
   rw [H.1] at this
   cases this
 | succ fuel ih =>
  intro listed a w hcl hfree hr hy hins H
  refine ⟨fun h => (by rw [h] at hr; cases hr), fun j hj => ?_⟩
  by_cases hji : j = i
  ·
   subst hji; exact hy.wpOp hi (hrel.refl w) ⟨.inr (hrel.refl w), H⟩
  ·
   have h1 := H.2 j (ready_mono hj hji)
   have hnl := not_last_of_ready hcl hji hr hj
   obtain ⟨hjun, oj, hoj, hall⟩ := mem_ready.1 hj
   have hnot : ∀ e ∈ oj.after, Region.binds .any e = true → e.on ≠ i := fun e he hb heq => by
    have h1 := hall e he hb
    have h0 := (mem_ready.1 hr).1
    rw [heq] at h1
    rcases Nat.lt_or_ge i listed.size with h' | h'
    ·
     simp [h'] at h0 h1; rw [h0] at h1; cases h1
    ·
     simp [Array.getElem?_eq_none h'] at h1
   have h2 := wpOp_putIf hoj (hfree j oj hoj hji hjun hnot) (fun cs b => hsel i oi cs b hi) (fun cs b => hsel j oj cs b hoj) hQ hy h1
   have hfree' : ∀ k ok, ops[k]? = some ok → k ≠ i → (listed.setIfInBounds j true).getD k true = false →
     (∀ e ∈ ok.after, Region.binds .any e = true → e.on ≠ i) → oi.apart ops ok = true := fun k ok hk hki hun hno => by
    refine hfree k ok hk hki ?_ hno
    by_cases hjk : j = k
    ·
     subst hjk; exact hjun
    ·
     rw [getD_set_ne true hjk] at hun; exact hun
   refine wpOp_mono (fun a' w' h3 => ?_) h2
   obtain ⟨hy', hf, hK⟩ := h3
   refine ⟨hf, ?_⟩
   rcases hnl with hnl | hnl
   ·
    have hf' : R w w' := hf.resolve_left (by rw [hnl]; decide)
    exact ih (listed.setIfInBounds j true) a' w' (hcl.set hj) hfree' (ready_mono hr (Ne.symm hji)) (yieldsIf_mono (fun x hx => hrel.trans hf' hx) hy') (fun hi9 => yields_all hi hi9 (hrel.refl w) hy') (by rw [Array.setIfInBounds_comm _ _ hji]; exact hK)
   ·
    exact ih (listed.setIfInBounds j true) a' w' (hcl.set hj) hfree' (ready_mono hr (Ne.symm hji)) (yieldsIf_mono (fun _ _ => trivial) (yields_all hi hnl (hrel.refl w) hy')) (fun hi9 => yields_all hi hi9 (hrel.refl w) hy') (by rw [Array.setIfInBounds_comm _ _ hji]; exact hK)

/-! ### the canonical order -/

/-- an order: 'hoist': taken first; 'one': nothing else may come up; 'two': two may come up; 'many': any of these -/
inductive Sched where
 | done
 | hoist (i : Nat) (r : Sched)
 | one (i : Nat) (r : Sched)
 | two (i : Nat) (r : Sched) (j : Nat) (s : Sched)
 | many (l : List Nat) (f : Nat → Sched)

/-- the check of an order, with how many operations it still has -/
def orderOk (ops : Array Oper) : Nat → Sched → Array Bool → Bool
 | n, .done, listed => (n == 0) && (Region.ready .any ops listed).isEmpty
 | 0, _, _ => false
 | n + 1, .hoist i r, listed => (Region.ready .any ops listed).contains i && Region.free .any ops listed i && orderOk ops n r (listed.setIfInBounds i true)
 | n + 1, .one i r, listed => (Region.ready .any ops listed == [i]) && orderOk ops n r (listed.setIfInBounds i true)
 | n + 1, .two i r j s, listed => (Region.ready .any ops listed == [i, j]) && orderOk ops n r (listed.setIfInBounds i true) && orderOk ops n s (listed.setIfInBounds j true)
 | n + 1, .many l f, listed => (Region.ready .any ops listed == l) && !l.isEmpty && l.all (fun i => orderOk ops n (f i) (listed.setIfInBounds i true))

/-- the worlds behind b -/
def fut (b : World) (d : Nat) (os : Array Obj) : World := grow (redrawn b d) os
theorem fut_of {b w : World} (h : Fut b w) : ∃ d os, w = fut b d os := let ⟨p, h⟩ := regrown_of_below h; ⟨p.d, p.os, h⟩
theorem Fut.fut (b : World) (d : Nat) (os : Array Obj) : Fut b (fut b d os) := below_regrown b d os
theorem cell_fut {b : World} {a : Addr} {v : Value} (h : b.cell? a = some v) : ∀ d os, (fut b d os).cell? a = some v := fun d os => (Fut.fut b d os).cell h

theorem fut_fut (b : World) (d d' : Nat) (os os' : Array Obj) : fut (fut b d os) d' os' = fut b d' (os ++ os') := by
 simp [fut, grow, redrawn, Array.append_assoc]
theorem fut_drew (b : World) (d : Nat) (os : Array Obj) : (fut b d os).drew = fut b (d + 1) os := rfl

/-- one operation that is hoisted: one value in every world behind b -/
def Oper.lit (P : Program) (o : Oper) (a : Act) (b w : World) (K : Act → World → Prop) : Prop :=
 ∃ v, (∀ d os, (execOp a.eval o).run P (fut b d os) = .ok (.value v) (fut b d os)) ∧ K (a.put o.dst v) w

/-- the same, for the worlds that R leads to -/
def Oper.litR (R : World → World → Prop) (P : Program) (o : Oper) (a : Act) (b w : World) (K : Act → World → Prop) : Prop :=
 ∃ v, (∀ w', R b w' → (execOp a.eval o).run P w' = .ok (.value v) w') ∧ K (a.put o.dst v) w
theorem litR_of_lit {o : Oper} {a : Act} {b w : World} {K : Act → World → Prop} (h : Oper.lit P o a b w K) : Oper.litR Fut P o a b w K := by
 obtain ⟨v, h1, h2⟩ := h
 exact ⟨v, fun w' hf => by obtain ⟨d, os, rfl⟩ := fut_of hf; exact h1 d os, h2⟩

/-- an operation that is carried out where it stands -/
def heavyOp (R : World → World → Prop) (P : Program) (ops : Array Oper) (Q : Exit → Act → World → Prop) (i : Nat) (b : World) (K : World → Act → World → Prop) (a : Act) (w : World) : Prop :=
 match ops[i]? with
 | none => False
 | some o => if Region.wanted o (yielded ops a.tmps) then o.wp P a w (fun a' w' => ((isLast ops i = true ∨ R w w') ∧ K b a' w') ∨ (late ops i = true ∧ K w' a' w')) Q else K b (a.put o.dst undef) w
def hoistOp (R : World → World → Prop) (P : Program) (ops : Array Oper) (b : World) (i : Nat) (K : Act → World → Prop) (a : Act) (w : World) : Prop :=
 match ops[i]? with
 | none => False
 | some o => if Region.wanted o (yielded ops a.tmps) then Oper.litR R P o a b w K else K (a.put o.dst undef) w

/-- THE WALK, in the canonical order; b: a world that has been come by -/
def wpG (R : World → World → Prop) (P : Program) (ops : Array Oper) (Q : Exit → Act → World → Prop) : Sched → World → Act → World → Prop
 | .done, _, a, w => Q .normal a w
 | .hoist i r, b, a, w => ∃ b', (b' = b ∨ b' = w) ∧ hoistOp R P ops b' i (wpG R P ops Q r b') a w
 | .one i r, b, a, w => ∃ b', (b' = b ∨ b' = w) ∧ heavyOp R P ops Q i b' (fun b'' => wpG R P ops Q r b'') a w
 | .two i r j s, b, a, w => ∃ b', (b' = b ∨ b' = w) ∧ heavyOp R P ops Q i b' (fun b'' => wpG R P ops Q r b'') a w ∧ heavyOp R P ops Q j b' (fun b'' => wpG R P ops Q s b'') a w
 | .many l f, b, a, w => ∃ b', (b' = b ∨ b' = w) ∧ ∀ i ∈ l, heavyOp R P ops Q i b' (fun b'' => wpG R P ops Q (f i) b'') a w
/-- where memory only grows -/
def wpF (P : Program) (ops : Array Oper) (Q : Exit → Act → World → Prop) (l : Sched) (b : World) (a : Act) (w : World) : Prop := wpG Fut P ops Q l b a w

theorem wpG_nil {a : Act} {w : World} (h : Q .normal a w) : wpG R P ops Q .done b a w := h
theorem wpG_hoist {i : Nat} {o : Oper} {r : Sched} {a : Act} {w : World} (ho : ops[i]? = some o)
  (h : ∀ K : Act → World → Prop, (∀ a w, wpG R P ops Q r b a w → K a w) → if Region.wanted o (yielded ops a.tmps) then Oper.litR R P o a b w K else K (a.put o.dst undef) w) : wpG R P ops Q (.hoist i r) b a w := by
 refine ⟨b, .inl rfl, ?_⟩
 simp only [hoistOp, ho]
 exact h _ (fun _ _ h => h)
/-- the same, where the guard is decided -/
theorem wpG_h {i : Nat} {o : Oper} {r : Sched} {a : Act} {w : World} (ho : ops[i]? = some o) (hw : Region.wanted o (yielded ops a.tmps) = true)
  (h : ∀ K : Act → World → Prop, (∀ a w, wpG R P ops Q r b a w → K a w) → Oper.litR R P o a b w K) : wpG R P ops Q (.hoist i r) b a w :=
 wpG_hoist ho (fun K hK => by rw [if_pos hw]; exact h K hK)
theorem heavyG_of {i : Nat} {o : Oper} {r : Sched} {a : Act} {w : World} (ho : ops[i]? = some o)
  (h : ∀ K : Act → World → Prop, (∀ a w', (isLast ops i = true ∨ R w w') → wpG R P ops Q r b a w' → K a w') → if Region.wanted o (yielded ops a.tmps) then o.wp P a w K Q else K (a.put o.dst undef) w) : heavyOp R P ops Q i b (fun b'' => wpG R P ops Q r b'') a w := by
 have h1 := h (fun a' w' => ((isLast ops i = true ∨ R w w') ∧ wpG R P ops Q r b a' w') ∨ (late ops i = true ∧ wpG R P ops Q r w' a' w')) (fun _ _ h k => .inl ⟨h, k⟩)
 simp only [heavyOp, ho]
 split
 ·
  rename_i hw; simpa only [hw, if_true] using h1
 ·
  rename_i hw
  have h2 := h (fun a' w' => wpG R P ops Q r b a' w') (fun _ _ _ k => k)
  simpa only [hw, if_false, Bool.false_eq_true] using h2
/-- an operation with which every other one is compared may write what was there: the walk goes on from the world that it leaves -/
theorem wpG_ol {i : Nat} {o : Oper} {r : Sched} {a : Act} {w : World} (ho : ops[i]? = some o) (hl : late ops i = true) (hw : Region.wanted o (yielded ops a.tmps) = true)
  (h : ∀ K : Act → World → Prop, (∀ a w', wpG R P ops Q r w' a w' → K a w') → o.wp P a w K Q) : wpG R P ops Q (.one i r) b a w := by
 have h1 := h (fun a' w' => ((isLast ops i = true ∨ R w w') ∧ wpG R P ops Q r b a' w') ∨ (late ops i = true ∧ wpG R P ops Q r w' a' w')) (fun _ _ k => .inr ⟨hl, k⟩)
 refine ⟨b, .inl rfl, ?_⟩
 simp only [heavyOp, ho]
 simpa only [hw, if_true] using h1
theorem wpG_heavy {i : Nat} {o : Oper} {r : Sched} {a : Act} {w : World} (ho : ops[i]? = some o)
  (h : ∀ K : Act → World → Prop, (∀ a w', (isLast ops i = true ∨ R w w') → wpG R P ops Q r b a w' → K a w') → if Region.wanted o (yielded ops a.tmps) then o.wp P a w K Q else K (a.put o.dst undef) w) : wpG R P ops Q (.one i r) b a w :=
 ⟨b, .inl rfl, heavyG_of ho h⟩
theorem wpG_o {i : Nat} {o : Oper} {r : Sched} {a : Act} {w : World} (ho : ops[i]? = some o) (hw : Region.wanted o (yielded ops a.tmps) = true)
  (h : ∀ K : Act → World → Prop, (∀ a w', (isLast ops i = true ∨ R w w') → wpG R P ops Q r b a w' → K a w') → o.wp P a w K Q) : wpG R P ops Q (.one i r) b a w :=
 wpG_heavy ho (fun K hK => by rw [if_pos hw]; exact h K hK)
theorem wpG_os (hrel : RelW R) {i : Nat} {o : Oper} {r : Sched} {a : Act} {w : World} (ho : ops[i]? = some o) (hw : Region.wanted o (yielded ops a.tmps) = false)
  (h : ∀ K : Act → World → Prop, (∀ a w, wpG R P ops Q r b a w → K a w) → K (a.put o.dst undef) w) : wpG R P ops Q (.one i r) b a w :=
 wpG_heavy ho (fun K hK => by rw [if_neg (by rw [hw]; decide)]; exact hK _ _ (.inr (hrel.refl w)) (h _ (fun _ _ h => h)))

theorem wpF_nil {a : Act} {w : World} (h : Q .normal a w) : wpF P ops Q .done b a w := h
theorem wpF_hoist {i : Nat} {o : Oper} {r : Sched} {a : Act} {w : World} (ho : ops[i]? = some o)
  (h : ∀ K : Act → World → Prop, (∀ a w, wpF P ops Q r b a w → K a w) → if Region.wanted o (yielded ops a.tmps) then Oper.lit P o a b w K else K (a.put o.dst undef) w) : wpF P ops Q (.hoist i r) b a w :=
 wpG_hoist ho (fun K hK => by
  have := h K hK
  split
  ·
   rename_i hw; rw [if_pos hw] at this; exact litR_of_lit this
  ·
   rename_i hw; rw [if_neg hw] at this; exact this)
theorem wpF_h {i : Nat} {o : Oper} {r : Sched} {a : Act} {w : World} (ho : ops[i]? = some o) (hw : Region.wanted o (yielded ops a.tmps) = true)
  (h : ∀ K : Act → World → Prop, (∀ a w, wpF P ops Q r b a w → K a w) → Oper.lit P o a b w K) : wpF P ops Q (.hoist i r) b a w :=
 wpF_hoist ho (fun K hK => by rw [if_pos hw]; exact h K hK)
theorem wpF_hs {i : Nat} {o : Oper} {r : Sched} {a : Act} {w : World} (ho : ops[i]? = some o) (hw : Region.wanted o (yielded ops a.tmps) = false)
  (h : wpF P ops Q r b (a.put o.dst undef) w) : wpF P ops Q (.hoist i r) b a w :=
 wpF_hoist ho (fun K hK => by rw [if_neg (by rw [hw]; decide)]; exact hK _ _ h)
theorem wpF_hs2 {i : Nat} {o : Oper} {r : Sched} {a : Act} {w : World} (ho : ops[i]? = some o) (hw : Region.wanted o (yielded ops a.tmps) = false)
  (h : ∀ K : Act → World → Prop, (∀ a w, wpF P ops Q r b a w → K a w) → K (a.put o.dst undef) w) : wpF P ops Q (.hoist i r) b a w :=
 wpF_hs ho hw (h _ (fun _ _ h => h))
theorem wpF_o {i : Nat} {o : Oper} {r : Sched} {a : Act} {w : World} (ho : ops[i]? = some o) (hw : Region.wanted o (yielded ops a.tmps) = true)
  (h : ∀ K : Act → World → Prop, (∀ a w', (isLast ops i = true ∨ Fut w w') → wpF P ops Q r b a w' → K a w') → o.wp P a w K Q) : wpF P ops Q (.one i r) b a w := wpG_o ho hw h
theorem wpF_ol {i : Nat} {o : Oper} {r : Sched} {a : Act} {w : World} (ho : ops[i]? = some o) (hl : late ops i = true) (hw : Region.wanted o (yielded ops a.tmps) = true)
  (h : ∀ K : Act → World → Prop, (∀ a w', wpF P ops Q r w' a w' → K a w') → o.wp P a w K Q) : wpF P ops Q (.one i r) b a w := wpG_ol ho hl hw h
theorem wpF_os {i : Nat} {o : Oper} {r : Sched} {a : Act} {w : World} (ho : ops[i]? = some o) (hw : Region.wanted o (yielded ops a.tmps) = false)
  (h : wpF P ops Q r b (a.put o.dst undef) w) : wpF P ops Q (.one i r) b a w := wpG_os relFut ho hw (fun _ hK => hK _ _ h)
theorem wpF_os2 {i : Nat} {o : Oper} {r : Sched} {a : Act} {w : World} (ho : ops[i]? = some o) (hw : Region.wanted o (yielded ops a.tmps) = false)
  (h : ∀ K : Act → World → Prop, (∀ a w, wpF P ops Q r b a w → K a w) → K (a.put o.dst undef) w) : wpF P ops Q (.one i r) b a w :=
 wpF_os ho hw (h _ (fun _ _ h => h))
theorem wpF_two {i j : Nat} {o p : Oper} {r s : Sched} {a : Act} {w : World} (ho : ops[i]? = some o) (hp : ops[j]? = some p)
  (h : ∀ K : Act → World → Prop, (∀ a w', (isLast ops i = true ∨ Fut w w') → wpF P ops Q r b a w' → K a w') → if Region.wanted o (yielded ops a.tmps) then o.wp P a w K Q else K (a.put o.dst undef) w)
  (k : ∀ K : Act → World → Prop, (∀ a w', (isLast ops j = true ∨ Fut w w') → wpF P ops Q s b a w' → K a w') → if Region.wanted p (yielded ops a.tmps) then p.wp P a w K Q else K (a.put p.dst undef) w) : wpF P ops Q (.two i r j s) b a w :=
 ⟨b, .inl rfl, heavyG_of ho h, heavyG_of hp k⟩

/-- any of some operations comes next -/
theorem wpG_many {l : List Nat} {f : Nat → Sched} {a : Act} {w : World}
  (h : ∀ i ∈ l, ∃ o r, ops[i]? = some o ∧ f i = r ∧ ∀ K : Act → World → Prop, (∀ a w', (isLast ops i = true ∨ R w w') → wpG R P ops Q r b a w' → K a w') → if Region.wanted o (yielded ops a.tmps) then o.wp P a w K Q else K (a.put o.dst undef) w) : wpG R P ops Q (.many l f) b a w :=
 ⟨b, .inl rfl, fun i hi => by
  obtain ⟨o, r, ho, rfl, hk⟩ := h i hi
  exact heavyG_of ho hk⟩
/-- two operations in either order -/
theorem wpG_two' {i j : Nat} {o p : Oper} {r s : Sched} {a : Act} {w : World} (ho : ops[i]? = some o) (hp : ops[j]? = some p)
  (h : ∀ K : Act → World → Prop, (∀ a w', (isLast ops i = true ∨ R w w') → wpG R P ops Q r b a w' → K a w') → if Region.wanted o (yielded ops a.tmps) then o.wp P a w K Q else K (a.put o.dst undef) w)
  (k : ∀ K : Act → World → Prop, (∀ a w', (isLast ops j = true ∨ R w w') → wpG R P ops Q s b a w' → K a w') → if Region.wanted p (yielded ops a.tmps) then p.wp P a w K Q else K (a.put p.dst undef) w) : wpG R P ops Q (.two i r j s) b a w :=
 ⟨b, .inl rfl, heavyG_of ho h, heavyG_of hp k⟩
theorem ready_nil_of_last {i : Nat} {listed : Array Bool} (hl : isLast ops i = true) (hi : i ∈ Region.ready .any ops listed) : Region.ready .any ops (listed.setIfInBounds i true) = [] := by
 cases hr : Region.ready .any ops (listed.setIfInBounds i true) with
 | nil => rfl
 | cons k ks =>
  exfalso
  have hk : k ∈ Region.ready .any ops (listed.setIfInBounds i true) := by rw [hr]; exact List.mem_cons_self
  obtain ⟨h0, ok, hok, _⟩ := mem_ready.1 hk
  obtain ⟨hi0, oi, hoi, hall⟩ := mem_ready.1 hi
  have hlt : k < ops.size := (Array.getElem?_eq_some_iff.1 hok).1
  have hsz : i < listed.size := by
   rcases Nat.lt_or_ge i listed.size with h' | h'
   ·
    exact h'
   ·
    simp [Array.getElem?_eq_none h'] at hi0
  have hki : k ≠ i := by
   rintro rfl
   simp [hsz] at h0
  have h1 := List.all_eq_true.1 hl k (List.mem_range.2 hlt)
  simp only [hoi, Option.map_some, Option.getD_some, Bool.or_eq_true, beq_iff_eq] at h1
  rcases h1 with h1 | h1
  ·
   exact hki h1
  ·
   obtain ⟨e, he, hb⟩ := Array.any_eq_true'.1 h1
   simp only [Bool.and_eq_true, beq_iff_eq] at hb
   have h2 := hall e he hb.1
   rw [hb.2] at h2
   rw [getD_set_ne true (Ne.symm hki)] at h0
   rcases Nat.lt_or_ge k listed.size with h' | h'
   ·
    simp [h'] at h0 h2; rw [h0] at h2; cases h2
   ·
    simp [Array.getElem?_eq_none h'] at h2

theorem heavy_any (hrel : RelW R) {n : Nat} {i : Nat} {r : Sched} {listed : Array Bool} {a : Act} {w b : World} (hb : R b w)
  (ih : ∀ b' a' w', R b' w' → wpG R P ops Q r b' a' w' → wpAnyF R P ops Q n (listed.setIfInBounds i true) a' w') (hm : i ∈ Region.ready .any ops listed) (ho : orderOk ops n r (listed.setIfInBounds i true) = true)
  (h : heavyOp R P ops Q i b (fun b'' => wpG R P ops Q r b'') a w) : wpOp P ops Q i (fun a' w' => (late ops i = true ∨ R w w') ∧ wpAnyF R P ops Q n (listed.setIfInBounds i true) a' w') a w := by
 unfold heavyOp at h
 unfold wpOp
 cases hoi : ops[i]? with
 | none => simp [hoi] at h
 | some oi =>
  simp only [hoi] at h ⊢
  by_cases hw : Region.wanted oi (yielded ops a.tmps) = true
  ·
   simp only [hw, if_true] at h ⊢
   refine .inl (Oper.wp_mono (fun a' w' h' => ?_) h)
   rcases h' with h' | ⟨hl, h'⟩
   ·
    by_cases hl : isLast ops i = true
    ·
     have hnil := ready_nil_of_last hl hm
     refine ⟨.inl (late_of_last hl), ?_⟩
     cases r with
     | done =>
      cases n with
      | zero => exact ⟨hnil, h'.2⟩
      | succ n => simp [orderOk] at ho
     | hoist k r => cases n <;> simp [orderOk, hnil] at ho
     | one k r => cases n <;> simp [orderOk, hnil] at ho
     | two k r l s => cases n <;> simp [orderOk, hnil] at ho
     | many l f =>
      cases n with
      | zero => simp [orderOk] at ho
      | succ n =>
       simp only [orderOk, hnil, Bool.and_eq_true, beq_iff_eq] at ho
       rw [← ho.1.1] at ho
       simp at ho
    ·
     have hf := h'.1.resolve_left hl
     exact ⟨.inr hf, ih _ _ _ (hrel.trans hb hf) h'.2⟩
   ·
    exact ⟨.inl hl, ih _ _ _ (hrel.refl _) h'⟩
  ·
   simp only [hw, Bool.false_eq_true, if_false] at h ⊢
   exact ⟨.inr (hrel.refl w), ih _ _ _ hb h⟩

theorem wpAnyF_of_wpF (hrel : RelW R) (hs : Region.noSelect ops = true) (hQ : ∀ c a d v w, Q (.panic c) (a.put d v) w → Q (.panic c) a w) : ∀ (n : Nat) (l : Sched) (b : World) (listed : Array Bool) (a : Act) (w : World),
  Closed ops listed → orderOk ops n l listed = true → R b w → wpG R P ops Q l b a w → wpAnyF R P ops Q n listed a w
 | 0, .done, b, listed, a, w, _, ho, _, h => ⟨by simpa [orderOk] using ho, h⟩
 | _ + 1, .done, _, _, _, _, _, ho, _, _ => by simp [orderOk] at ho
 | 0, .hoist _ _, _, _, _, _, _, ho, _, _ => by simp [orderOk] at ho
 | 0, .one _ _, _, _, _, _, _, ho, _, _ => by simp [orderOk] at ho
 | 0, .two _ _ _ _, _, _, _, _, _, ho, _, _ => by simp [orderOk] at ho
 | 0, .many _ _, _, _, _, _, _, ho, _, _ => by simp [orderOk] at ho
 | n + 1, .hoist i r, b, listed, a, w, hcl, ho, hb0, h0 => by
  obtain ⟨b', hb', h⟩ := h0
  have hb : R b' w := by
   rcases hb' with rfl | rfl
   ·
    exact hb0
   ·
    exact hrel.refl _
  clear hb0
  simp only [orderOk, Bool.and_eq_true] at ho
  obtain ⟨⟨hrd, hfr⟩, hrest⟩ := ho
  have hmem : i ∈ Region.ready .any ops listed := by simpa using hrd
  unfold hoistOp at h
  cases hoi : ops[i]? with
  | none => simp [hoi] at h
  | some oi =>
   simp only [hoi] at h
   by_cases hw : Region.wanted oi (yielded ops a.tmps) = true
   ·
    simp only [hw, if_true] at h
    obtain ⟨v, h2, h3⟩ := h
    have hyy : YieldsIf P ops (R w) oi v a := .inl ⟨hw, fun w' hf => h2 w' (hrel.trans hb hf)⟩
    exact wpAnyF_first hrel hoi (Region.noSelect_spec hs) (fun c a w => hQ c a oi.dst v w) n listed a w hcl (Region.free_spec hoi hfr) hmem hyy (fun h9 => yields_all hoi h9 (hrel.refl w) hyy)
     (wpAnyF_of_wpF hrel hs hQ n r b' _ _ _ (hcl.set hmem) hrest hb h3)
   ·
    simp only [hw, Bool.false_eq_true, if_false] at h
    exact wpAnyF_first hrel hoi (Region.noSelect_spec hs) (fun c a w => hQ c a oi.dst undef w) n listed a w hcl (Region.free_spec hoi hfr) hmem (.inr ⟨by simpa using hw, rfl⟩) (fun _ => .inr ⟨by simpa using hw, rfl⟩)
     (wpAnyF_of_wpF hrel hs hQ n r b' _ _ _ (hcl.set hmem) hrest hb h)
 | n + 1, .one i r, b, listed, a, w, hcl, ho, hb0, h0 => by
  obtain ⟨b', hb', h⟩ := h0
  have hb : R b' w := by
   rcases hb' with rfl | rfl
   ·
    exact hb0
   ·
    exact hrel.refl _
  simp only [orderOk, Bool.and_eq_true, beq_iff_eq] at ho
  obtain ⟨hrd, hrest⟩ := ho
  simp only [wpAnyF]
  refine ⟨fun h0 => (by rw [h0] at hrd; cases hrd), fun j hj => ?_⟩
  rw [hrd] at hj
  obtain rfl : j = i := by simpa using hj
  exact heavy_any hrel hb (fun b'' a' w' hf hk => wpAnyF_of_wpF hrel hs hQ n r b'' _ a' w' (hcl.set (by rw [hrd]; simp)) hrest hf hk) (by rw [hrd]; exact List.mem_cons_self) hrest h
 | n + 1, .two i r k s, b, listed, a, w, hcl, ho, hb0, h0 => by
  obtain ⟨b', hb', h, h'⟩ := h0
  have hb : R b' w := by
   rcases hb' with rfl | rfl
   ·
    exact hb0
   ·
    exact hrel.refl _
  simp only [orderOk, Bool.and_eq_true, beq_iff_eq] at ho
  obtain ⟨⟨hrd, hrest⟩, hrest'⟩ := ho
  simp only [wpAnyF]
  refine ⟨fun h0 => (by rw [h0] at hrd; cases hrd), fun j hj => ?_⟩
  rw [hrd] at hj
  have hj' : j = i ∨ j = k := by simpa using hj
  rcases hj' with rfl | rfl
  ·
   exact heavy_any hrel hb (fun b'' a' w' hf hk => wpAnyF_of_wpF hrel hs hQ n r b'' _ a' w' (hcl.set (by rw [hrd]; simp)) hrest hf hk) (by rw [hrd]; exact List.mem_cons_self) hrest h
  ·
   exact heavy_any hrel hb (fun b'' a' w' hf hk => wpAnyF_of_wpF hrel hs hQ n s b'' _ a' w' (hcl.set (by rw [hrd]; simp)) hrest' hf hk) (by rw [hrd]; simp) hrest' h'
 | n + 1, .many l f, b, listed, a, w, hcl, ho, hb0, h0 => by
  obtain ⟨b', hb', h⟩ := h0
  have hb : R b' w := by
   rcases hb' with rfl | rfl
   ·
    exact hb0
   ·
    exact hrel.refl _
  simp only [orderOk, Bool.and_eq_true, beq_iff_eq, List.all_eq_true] at ho
  obtain ⟨⟨hrd, hne⟩, hrest⟩ := ho
  simp only [wpAnyF]
  refine ⟨fun h0 => (by rw [h0] at hrd; rw [← hrd] at hne; simp at hne), fun j hj => ?_⟩
  have hjl : j ∈ l := by rwa [hrd] at hj
  exact heavy_any hrel hb (fun b'' a' w' hf hk => wpAnyF_of_wpF hrel hs hQ n (f j) b'' _ a' w' (hcl.set hj) (hrest j hjl) hf hk) hj (hrest j hjl) (h j hjl)

/-- all that is asked of a region that draws and of an order, in one closed fact -/
def canonB (ops : Array Oper) (l : Sched) : Bool :=
 Region.noSelect ops && orderOk ops ops.size l (Array.replicate ops.size false)

theorem wp_region_G (hrel : RelW R) {id : Nat} {os : List Oper} (l : Sched) {a : Act} {w : World} (hm : P.follows .mixedOrders = true)
  (hB : canonB os.toArray l = true) (hQ : ∀ c a d v w, Q (.panic c) (a.put d v) w → Q (.panic c) a w)
  (h : wpG R P os.toArray Q l w a w.drew) : (Code.region id os.toArray true).wp P Q a w := by
 simp only [canonB, Bool.and_eq_true] at hB
 exact wp_region_any hm (wpAny_of_F _ _ _ _ (wpAnyF_of_wpF hrel hB.1 hQ _ l w (Array.replicate os.toArray.size false) a w.drew (closed_start _) hB.2 (hrel.of_fut (Fut.refl w).drew) h))
end

/-! ### regions that write rows of their own -/
/-- w' is w with new blocks, and with others at the numbers that S names -/
structure FutS (S : Nat → Bool) (w w' : World) : Prop where
 os : w'.os = w.os
 tape : w'.tape = w.tape
 output : w'.output = w.output
 size : w.heap.size ≤ w'.heap.size
 block : ∀ k, k < w.heap.size → S k = false → w'.heap[k]? = w.heap[k]?
theorem relS (S : Nat → Bool) : RelW (FutS S) :=
 ⟨fun _ => ⟨rfl, rfl, rfl, Nat.le_refl _, fun _ _ _ => rfl⟩,
 fun h k => ⟨k.os.trans h.os, k.tape.trans h.tape, k.output.trans h.output, Nat.le_trans h.size k.size, fun i hi hs => (k.block i (Nat.lt_of_lt_of_le hi h.size) hs).trans (h.block i hi hs)⟩,
 fun h => ⟨h.os, h.tape, h.output, h.size, fun k hk _ => h.block k hk⟩⟩
def mods (b : World) (S : Nat → Bool) (f : Nat → Obj) : World := { b with heap := b.heap.mapIdx fun k o => if S k then f k else o }
def futS (b : World) (S : Nat → Bool) (f : Nat → Obj) (d : Nat) (os : Array Obj) : World := fut (mods b S f) d os
theorem futS_of {S : Nat → Bool} {b w : World} (h : FutS S b w) : ∃ f d os, w = futS b S f d os := by
 refine ⟨fun k => (w.heap[k]?).getD default, ?_⟩
 refine fut_of ⟨h.os, h.tape, h.output, by simpa [mods] using h.size, fun k hk => ?_⟩
 have hk' : k < b.heap.size := by simpa [mods] using hk
 have hkw : k < w.heap.size := Nat.lt_of_lt_of_le hk' h.size
 simp only [mods, Array.getElem?_mapIdx, Array.getElem?_eq_getElem hk', Option.map_some]
 cases hS : S k with
 | true => simp [Array.getElem?_eq_getElem hkw]
 | false =>
  have := h.block k hk' hS
  rw [Array.getElem?_eq_getElem hk'] at this
  simpa using this
theorem cell_futS {S : Nat → Bool} {b : World} {a : Addr} {v : Value} (h : b.cell? a = some v) (hS : S a.block = false) : ∀ f d os, (futS b S f d os).cell? a = some v := fun f d os => by
 have hlt := World.block_lt_of_cell? b a h
 refine (Fut.fut (mods b S f) d os).cell ?_
 rw [← h]
 refine World.cell?_of_block ?_
 simp [mods, Array.getElem?_mapIdx, Array.getElem?_eq_getElem hlt, hS]
def Oper.litS (S : Nat → Bool) (P : Program) (o : Oper) (a : Act) (b w : World) (K : Act → World → Prop) : Prop :=
 ∃ v, (∀ f d os, (execOp a.eval o).run P (futS b S f d os) = .ok (.value v) (futS b S f d os)) ∧ K (a.put o.dst v) w
section
variable {P : Program} {ops : Array Oper} {Q : Exit → Act → World → Prop} {b : World} {S : Nat → Bool}
theorem wpS_h {i : Nat} {o : Oper} {r : Sched} {a : Act} {w : World} (ho : ops[i]? = some o) (hw : Region.wanted o (yielded ops a.tmps) = true)
  (h : ∀ K : Act → World → Prop, (∀ a w, wpG (FutS S) P ops Q r b a w → K a w) → Oper.litS S P o a b w K) : wpG (FutS S) P ops Q (.hoist i r) b a w :=
 wpG_h ho hw (fun K hK => by
  obtain ⟨v, h1, h2⟩ := h K hK
  exact ⟨v, fun w' hf => by obtain ⟨f, d, os, rfl⟩ := futS_of hf; exact h1 f d os, h2⟩)
end
end Go.Proofs.YtajbmdjlfniofaaDoor
/-
  A fast check of an order (numbers as sets): what the kernel reckons for a large region.
-/
namespace Go.Proofs.YtajbmdjlfniofaaDoor

theorem filter_one (p : Nat → Bool) : ∀ (n i : Nat), i < n → p i = true → (∀ j, j < n → p j = true → j = i) → (List.range n).filter p = [i]
 | 0, i, h, _, _ => by omega
 | n + 1, i, h, hp, hu => by
  rw [List.range_succ, List.filter_append]
  by_cases e : i = n
  ·
   subst e
   have h0 : (List.range i).filter p = [] := by
    rw [List.filter_eq_nil_iff]
    intro j hj hpj
    have := List.mem_range.1 hj
    have := hu j (by omega) hpj
    omega
   simp [h0, hp]
  ·
   have h1 := filter_one p n i (by omega) hp (fun j hj hpj => hu j (by omega) hpj)
   have h2 : p n = false := by
    cases hn : p n with
    | false => rfl
    | true => exact absurd (hu n (by omega) hn).symm e
   simp [h1, h2]
theorem filter_two (p : Nat → Bool) : ∀ (n i k : Nat), i < k → k < n → p i = true → p k = true → (∀ j, j < n → p j = true → j = i ∨ j = k) → (List.range n).filter p = [i, k]
 | 0, i, k, _, h, _, _, _ => by omega
 | n + 1, i, k, hik, h, hp, hq, hu => by
  rw [List.range_succ, List.filter_append]
  by_cases e : k = n
  ·
   subst e
   have h0 := filter_one p k i hik hp (fun j hj hpj => (hu j (by omega) hpj).resolve_right (by omega))
   simp [h0, hq]
  ·
   have h1 := filter_two p n i k hik (by omega) hp hq (fun j hj hpj => hu j (by omega) hpj)
   have h2 : p n = false := by
    cases hn : p n with
    | false => rfl
    | true => rcases hu n (by omega) hn with h' | h' <;> omega
   simp [h1, h2]

/-- l rises, from i on -/
def rises : Nat → List Nat → Bool
 | _, [] => true
 | i, x :: xs => decide (i ≤ x) && rises (x + 1) xs
theorem rises_mem : ∀ (l : List Nat) (i k : Nat), rises i l = true → k ∈ l → i ≤ k
 | [], _, _, _, h => by simp at h
 | x :: xs, i, k, hr, h => by
  simp only [rises, Bool.and_eq_true, decide_eq_true_eq] at hr
  rcases List.mem_cons.1 h with rfl | h
  ·
   exact hr.1
  ·
   have := rises_mem xs (x + 1) k hr.2 h
   omega
theorem filter_from (p : Nat → Bool) : ∀ (m i : Nat) (l : List Nat), rises i l = true → (∀ k ∈ l, k < i + m) → (∀ j, i ≤ j → j < i + m → (p j = true ↔ j ∈ l)) → (List.range' i m).filter p = l
 | 0, i, l, hr, hb, _ => by
  cases l with
  | nil => rfl
  | cons x xs =>
   have h1 := hb x (by simp)
   have h2 := rises_mem _ i x hr (by simp)
   omega
 | m + 1, i, l, hr, hb, hp => by
  rw [List.range'_succ, List.filter_cons]
  cases l with
  | nil =>
   have h0 : p i = false := by
    cases hpi : p i with
    | false => rfl
    | true => have := (hp i (Nat.le_refl _) (by omega)).1 hpi; simp at this
   rw [h0]
   exact filter_from p m (i + 1) [] rfl (by simp) (fun j h1 h2 => hp j (by omega) (by omega))
  | cons x xs =>
   simp only [rises, Bool.and_eq_true, decide_eq_true_eq] at hr
   by_cases e : x = i
   ·
    subst e
    have h0 : p x = true := (hp x (Nat.le_refl _) (by omega)).2 (by simp)
    rw [h0, if_pos rfl]
    congr 1
    refine filter_from p m (x + 1) xs hr.2 (fun k hk => by have := hb k (by simp [hk]); omega) (fun j h1 h2 => ?_)
    rw [hp j (by omega) (by omega), List.mem_cons]
    constructor
    ·
     rintro (h | h)
     ·
      omega
     ·
      exact h
    ·
     exact .inr
   ·
    have h0 : p i = false := by
     cases hpi : p i with
     | false => rfl
     | true =>
      have := (hp i (Nat.le_refl _) (by omega)).1 hpi
      rcases List.mem_cons.1 this with h | h
      ·
       exact absurd h.symm e
      ·
       have := rises_mem _ _ _ hr.2 h; omega
    rw [h0]
    refine filter_from p m (i + 1) (x :: xs) ?_ (fun k hk => by have := hb k hk; omega) (fun j h1 h2 => hp j (by omega) (by omega))
    simp only [rises, Bool.and_eq_true, decide_eq_true_eq]
    exact ⟨by omega, hr.2⟩
theorem filter_many (p : Nat → Bool) (n : Nat) (l : List Nat) (hr : rises 0 l = true) (hb : ∀ k ∈ l, k < n) (hp : ∀ j, j < n → (p j = true ↔ j ∈ l)) : (List.range n).filter p = l := by
 rw [List.range_eq_range']
 exact filter_from p n 0 l hr (by simpa using hb) (fun j _ h => hp j (by simpa using h))
/-- a list of numbers as one number -/
def maskOf : List Nat → Nat
 | [] => 0
 | x :: xs => (1 <<< x) ||| maskOf xs
theorem testBit_maskOf (l : List Nat) (k : Nat) : (maskOf l).testBit k = true ↔ k ∈ l := by
 induction l with
 | nil => simp [maskOf]
 | cons x xs ih =>
  simp only [maskOf, Nat.testBit_or, Bool.or_eq_true, ih, List.mem_cons]
  have : (1 <<< x).testBit k = decide (k = x) := by
   rw [Nat.shiftLeft_eq, Nat.one_mul, Nat.testBit_two_pow]
   simp [eq_comm]
  rw [this]; simp

def needOf (o : Oper) : Nat := maskOf ((o.after.toList.filter (Region.binds .any)).map (·.on))
def looksOf (ops : Array Oper) (o : Oper) : Nat := maskOf (o.looksAt ops)
theorem need_iff (o : Oper) (k : Nat) : (needOf o).testBit k = true ↔ ∃ e ∈ o.after, Region.binds .any e = true ∧ e.on = k := by
 unfold needOf
 rw [testBit_maskOf]
 simp only [List.mem_map, List.mem_filter, Array.mem_toList_iff]
 constructor
 ·
  rintro ⟨e, ⟨h1, h2⟩, h3⟩; exact ⟨e, h1, h2, h3⟩
 ·
  rintro ⟨e, h1, h2, h3⟩; exact ⟨e, ⟨h1, h2⟩, h3⟩

structure FRow where
 need : Nat
 looks : Nat
 dst : Option Nat
def rowsOf (ops : Array Oper) : List FRow := ops.toList.map fun o => ⟨needOf o, looksOf ops o, o.dst⟩

/-- all of 'n' is in 'l' -/
def inB (n l : Nat) : Bool := n &&& l == n
theorem inB_iff {n l : Nat} : inB n l = true ↔ ∀ k, n.testBit k = true → l.testBit k = true := by
 unfold inB
 rw [beq_iff_eq]
 constructor
 ·
  intro h k hk
  have : (n &&& l).testBit k = true := by rw [h]; exact hk
  rw [Nat.testBit_and, Bool.and_eq_true] at this
  exact this.2
 ·
  intro h
  apply Nat.eq_of_testBit_eq
  intro k
  rw [Nat.testBit_and]
  cases hk : n.testBit k with
  | false => simp
  | true => simp [h k hk]

/-- every row satisfies p, with its number -/
def allFrom (p : Nat → FRow → Bool) : Nat → List FRow → Bool
 | _, [] => true
 | j, r :: rs => p j r && allFrom p (j + 1) rs
theorem allFrom_spec {p : Nat → FRow → Bool} : ∀ {rs : List FRow} {j : Nat}, allFrom p j rs = true → ∀ k r, rs[k]? = some r → p (j + k) r = true
 | [], _, _, k, r, h => by simp at h
 | x :: xs, j, ha, k, r, h => by
  simp only [allFrom, Bool.and_eq_true] at ha
  cases k with
  | zero => simp only [List.getElem?_cons_zero, Option.some.injEq] at h; subst h; exact ha.1
  | succ k =>
   have := allFrom_spec ha.2 k r (by simpa using h)
   rwa [show j + 1 + k = j + (k + 1) from by omega] at this

def apartR (x y : FRow) : Bool :=
 (match x.dst with
 | some d => !(y.looks.testBit d) && y.dst != some d
 | none => true) &&
 (match y.dst with
 | some d => !(x.looks.testBit d)
 | none => true)
def readyR (L : Nat) (i : Nat) (r : FRow) : Bool := !L.testBit i && inB r.need L

def okM (rows : List FRow) : Nat → Sched → Nat → Bool
 | 0, .done, L => L == 2 ^ rows.length - 1
 | _ + 1, .done, _ => false
 | 0, _, _ => false
 | n + 1, .hoist i r, L =>
  match rows[i]? with
  | none => false
  | some x => readyR L i x && allFrom (fun j y => L.testBit j || j == i || y.need.testBit i || apartR x y) 0 rows && okM rows n r (L ||| 1 <<< i)
 | n + 1, .one i r, L =>
  match rows[i]? with
  | none => false
  | some x => readyR L i x && allFrom (fun j y => j == i || !readyR L j y) 0 rows && okM rows n r (L ||| 1 <<< i)
 | n + 1, .two i r k s, L =>
  match rows[i]?, rows[k]? with
  | some x, some y => decide (i < k) && readyR L i x && readyR L k y && allFrom (fun j z => j == i || j == k || !readyR L j z) 0 rows && okM rows n r (L ||| 1 <<< i) && okM rows n s (L ||| 1 <<< k)
  | _, _ => false
 | n + 1, .many l f, L => rises 0 l && !l.isEmpty && l.all (fun i => decide (i < rows.length)) && allFrom (fun j z => l.contains j == readyR L j z) 0 rows && l.all (fun i => okM rows n (f i) (L ||| 1 <<< i))

section
variable {ops : Array Oper}
def RelL (ops : Array Oper) (listed : Array Bool) (L : Nat) : Prop := listed.size = ops.size ∧ ∀ k, k < ops.size → listed[k]? = some (L.testBit k)

theorem rel_getD {listed : Array Bool} {L k : Nat} (h : RelL ops listed L) (d : Bool) (hk : k < ops.size) : listed.getD k d = L.testBit k := by
 have := h.2 k hk
 simp [this]
theorem rows_get {i : Nat} : (rowsOf ops)[i]? = (ops[i]?).map fun o => (⟨needOf o, looksOf ops o, o.dst⟩ : FRow) := by
 simp [rowsOf]
theorem rel_set {listed : Array Bool} {L i : Nat} (h : RelL ops listed L) : RelL ops (listed.setIfInBounds i true) (L ||| 1 <<< i) := by
 refine ⟨by simpa using h.1, fun k hk => ?_⟩
 rw [Array.getElem?_setIfInBounds]
 have e : (L ||| 1 <<< i).testBit k = (L.testBit k || decide (k = i)) := by
  rw [Nat.testBit_or, Nat.shiftLeft_eq, Nat.one_mul, Nat.testBit_two_pow]; simp [eq_comm]
 rw [e]
 by_cases hik : i = k
 ·
  subst hik
  rw [if_pos rfl, if_pos (by rw [h.1]; exact hk)]
  simp
 ·
  rw [if_neg hik, h.2 k hk]
  simp [Ne.symm hik]
theorem ready_iff {listed : Array Bool} {L i : Nat} {o : Oper} (h : RelL ops listed L) (hb : ∀ o ∈ ops, ∀ e ∈ o.after, Region.binds .any e = true → e.on < ops.size) (ho : ops[i]? = some o) :
  i ∈ Region.ready .any ops listed ↔ readyR L i ⟨needOf o, looksOf ops o, o.dst⟩ = true := by
 have hi : i < ops.size := (Array.getElem?_eq_some_iff.1 ho).1
 rw [mem_ready]
 simp only [readyR, Bool.and_eq_true, Bool.not_eq_true', inB_iff, rel_getD h _ hi]
 constructor
 ·
  rintro ⟨h0, o', ho', hall⟩
  rw [ho] at ho'
  obtain rfl := Option.some.inj ho'
  refine ⟨h0, fun k hk => ?_⟩
  obtain ⟨e, he, hbd, rfl⟩ := (need_iff _ _).1 hk
  have := hall e he hbd
  rwa [rel_getD h _ (hb _ (Array.mem_of_getElem? ho) e he hbd)] at this
 ·
  rintro ⟨h0, hall⟩
  refine ⟨h0, o, ho, fun e he hbd => ?_⟩
  rw [rel_getD h _ (hb _ (Array.mem_of_getElem? ho) e he hbd)]
  exact hall _ ((need_iff _ _).2 ⟨e, he, hbd, rfl⟩)
theorem apart_of {oi oj : Oper} (h : apartR ⟨needOf oi, looksOf ops oi, oi.dst⟩ ⟨needOf oj, looksOf ops oj, oj.dst⟩ = true) : oi.apart ops oj = true := by
 have key : ∀ (o : Oper) (d : Nat), (looksOf ops o).testBit d = false → (o.looksAt ops).contains d = false := by
  intro o d hd
  cases hc : (o.looksAt ops).contains d with
  | false => rfl
  | true =>
   have : d ∈ o.looksAt ops := by simpa using hc
   have := (testBit_maskOf _ _).2 this
   unfold looksOf at hd
   rw [this] at hd; cases hd
 unfold apartR at h
 unfold Oper.apart
 simp only [Bool.and_eq_true] at h ⊢
 obtain ⟨h1, h2⟩ := h
 refine ⟨?_, ?_⟩
 ·
  cases hd : oi.dst with
  | none => rfl
  | some d =>
   simp only [hd, Bool.and_eq_true, Bool.not_eq_true'] at h1 ⊢
   exact ⟨key _ _ h1.1, h1.2⟩
 ·
  cases hd : oj.dst with
  | none => rfl
  | some d =>
   simp only [hd, Bool.not_eq_true'] at h2 ⊢
   exact key _ _ h2

theorem order_of_M (hb : ∀ o ∈ ops, ∀ e ∈ o.after, Region.binds .any e = true → e.on < ops.size) : ∀ (n : Nat) (l : Sched) (listed : Array Bool) (L : Nat), RelL ops listed L → okM (rowsOf ops) n l L = true → orderOk ops n l listed = true
 | 0, .done, listed, L, hR, h => by
  simp only [okM, beq_iff_eq] at h
  have hlen : (rowsOf ops).length = ops.size := by simp [rowsOf]
  rw [hlen] at h
  simp only [orderOk, Bool.and_eq_true, beq_iff_eq, true_and, List.isEmpty_iff]
  cases hr : Region.ready .any ops listed with
  | nil => rfl
  | cons k ks =>
   exfalso
   have hk : k ∈ Region.ready .any ops listed := by rw [hr]; exact List.mem_cons_self
   obtain ⟨h0, o, ho, _⟩ := mem_ready.1 hk
   have hlt : k < ops.size := (Array.getElem?_eq_some_iff.1 ho).1
   rw [rel_getD hR _ hlt, h, Nat.testBit_two_pow_sub_one] at h0
   simp [hlt] at h0
 | _ + 1, .done, _, _, _, h => by simp [okM] at h
 | 0, .hoist _ _, _, _, _, h => by simp [okM] at h
 | 0, .one _ _, _, _, _, h => by simp [okM] at h
 | 0, .two _ _ _ _, _, _, _, h => by simp [okM] at h
 | 0, .many _ _, _, _, _, h => by simp [okM] at h
 | n + 1, .hoist i r, listed, L, hR, h => by
  simp only [okM, rows_get] at h
  cases hoi : ops[i]? with
  | none => simp [hoi] at h
  | some oi =>
   simp only [hoi, Option.map_some, Bool.and_eq_true] at h
   obtain ⟨⟨h1, h2⟩, h3⟩ := h
   simp only [orderOk, Bool.and_eq_true]
   refine ⟨⟨?_, ?_⟩, order_of_M hb n r _ _ (rel_set hR) h3⟩
   ·
    simpa using (ready_iff hR hb hoi).2 h1
   ·
    unfold Region.free
    simp only [hoi, List.all_eq_true, List.mem_range]
    intro j hj
    obtain ⟨oj, hoj⟩ : ∃ oj, ops[j]? = some oj := ⟨_, Array.getElem?_eq_getElem hj⟩
    have h4 := allFrom_spec h2 j _ (by rw [rows_get, hoj]; rfl)
    simp only [hoj, Nat.zero_add, Bool.or_eq_true, beq_iff_eq, rel_getD hR _ hj] at h4 ⊢
    rcases h4 with ((h4 | h4) | h4) | h4
    ·
     exact .inl (.inr h4)
    ·
     exact .inl (.inl h4)
    ·
     refine .inr (.inl ?_)
     obtain ⟨e, he, hbd, hon⟩ := (need_iff _ _).1 h4
     rw [Array.any_eq_true']
     exact ⟨e, he, by simp [hbd, hon]⟩
    ·
     exact .inr (.inr (apart_of h4))
 | n + 1, .one i r, listed, L, hR, h => by
  simp only [okM, rows_get] at h
  cases hoi : ops[i]? with
  | none => simp [hoi] at h
  | some oi =>
   simp only [hoi, Option.map_some, Bool.and_eq_true] at h
   obtain ⟨⟨h1, h2⟩, h3⟩ := h
   simp only [orderOk, Bool.and_eq_true, beq_iff_eq]
   refine ⟨?_, order_of_M hb n r _ _ (rel_set hR) h3⟩
   have hmi := (ready_iff hR hb hoi).2 h1
   have hi : i < ops.size := (Array.getElem?_eq_some_iff.1 hoi).1
   unfold Region.ready at hmi ⊢
   refine filter_one _ _ i hi (List.mem_filter.1 hmi).2 (fun j hj hp => ?_)
   obtain ⟨oj, hoj⟩ : ∃ oj, ops[j]? = some oj := ⟨_, Array.getElem?_eq_getElem hj⟩
   have hmj : j ∈ Region.ready .any ops listed := List.mem_filter.2 ⟨List.mem_range.2 hj, hp⟩
   have h4 := allFrom_spec h2 j _ (by rw [rows_get, hoj]; rfl)
   simp only [Nat.zero_add, Bool.or_eq_true, beq_iff_eq, Bool.not_eq_true'] at h4
   rcases h4 with h4 | h4
   ·
    exact h4
   ·
    rw [(ready_iff hR hb hoj).1 hmj] at h4; cases h4
 | n + 1, .two i r k s, listed, L, hR, h => by
  simp only [okM, rows_get] at h
  cases hoi : ops[i]? with
  | none => simp [hoi] at h
  | some oi =>
   cases hok : ops[k]? with
   | none => simp [hoi, hok] at h
   | some ok =>
    simp only [hoi, hok, Option.map_some, Bool.and_eq_true, decide_eq_true_eq] at h
    obtain ⟨⟨⟨⟨⟨h0, h1⟩, h1'⟩, h2⟩, h3⟩, h3'⟩ := h
    simp only [orderOk, Bool.and_eq_true, beq_iff_eq]
    refine ⟨⟨?_, order_of_M hb n r _ _ (rel_set hR) h3⟩, order_of_M hb n s _ _ (rel_set hR) h3'⟩
    have hmi := (ready_iff hR hb hoi).2 h1
    have hmk := (ready_iff hR hb hok).2 h1'
    have hk : k < ops.size := (Array.getElem?_eq_some_iff.1 hok).1
    unfold Region.ready at hmi hmk ⊢
    refine filter_two _ _ i k h0 hk (List.mem_filter.1 hmi).2 (List.mem_filter.1 hmk).2 (fun j hj hp => ?_)
    obtain ⟨oj, hoj⟩ : ∃ oj, ops[j]? = some oj := ⟨_, Array.getElem?_eq_getElem hj⟩
    have hmj : j ∈ Region.ready .any ops listed := List.mem_filter.2 ⟨List.mem_range.2 hj, hp⟩
    have h4 := allFrom_spec h2 j _ (by rw [rows_get, hoj]; rfl)
    simp only [Nat.zero_add, Bool.or_eq_true, beq_iff_eq, Bool.not_eq_true'] at h4
    rcases h4 with (h4 | h4) | h4
    ·
     exact .inl h4
    ·
     exact .inr h4
    ·
     rw [(ready_iff hR hb hoj).1 hmj] at h4; cases h4

 | n + 1, .many l f, listed, L, hR, h => by
  simp only [okM, Bool.and_eq_true, List.all_eq_true, decide_eq_true_eq] at h
  obtain ⟨⟨⟨⟨h1, h2⟩, h3⟩, h4⟩, h5⟩ := h
  have hlen : (rowsOf ops).length = ops.size := by simp [rowsOf]
  simp only [orderOk, Bool.and_eq_true, beq_iff_eq, List.all_eq_true]
  refine ⟨⟨?_, h2⟩, fun i hi => order_of_M hb n (f i) _ _ (rel_set hR) (h5 i hi)⟩
  unfold Region.ready
  refine filter_many _ _ l h1 (fun k hk => by have := h3 k hk; omega) (fun j hj => ?_)
  obtain ⟨oj, hoj⟩ : ∃ oj, ops[j]? = some oj := ⟨_, Array.getElem?_eq_getElem hj⟩
  have h6 := allFrom_spec h4 j _ (by rw [rows_get, hoj]; rfl)
  simp only [Nat.zero_add, beq_iff_eq] at h6
  have h7 := ready_iff hR hb hoj
  unfold Region.ready at h7
  rw [List.mem_filter, List.mem_range] at h7
  constructor
  ·
   intro hp
   have := h7.1 ⟨hj, hp⟩
   rw [this] at h6
   simpa using h6
  ·
   intro hm
   have h8 : l.contains j = true := by simpa using hm
   rw [h8] at h6
   exact (h7.2 h6.symm).2

/-- the whole check -/
def fastB (ops : Array Oper) (l : Sched) : Bool :=
 Region.noSelect ops && ops.toList.all (fun o => o.after.toList.all fun e => !Region.binds .any e || decide (e.on < ops.size)) && okM (rowsOf ops) ops.size l 0

/-- A REGION THAT DRAWS ITS ORDER, walked once, in the order l; the fast check. -/
theorem wp_region_MG {P : Program} {Q : Exit → Act → World → Prop} {R : World → World → Prop} (hrel : RelW R) {id : Nat} {os : List Oper} (l : Sched) {a : Act} {w : World} (hm : P.follows .mixedOrders = true)
  (hB : fastB os.toArray l = true) (hQ : ∀ c a d v w, Q (.panic c) (a.put d v) w → Q (.panic c) a w)
  (h : wpG R P os.toArray Q l w a w.drew) : (Code.region id os.toArray true).wp P Q a w := by
 simp only [fastB, Bool.and_eq_true] at hB
 obtain ⟨⟨h1, h2⟩, h3⟩ := hB
 refine wp_region_G hrel l hm ?_ hQ h
 simp only [canonB, Bool.and_eq_true]
 refine ⟨h1, order_of_M (fun o ho e he hb => ?_) _ _ _ 0 ⟨by simp, fun k hk => ?_⟩ h3⟩
 ·
  have h4 := List.all_eq_true.1 h2 o (by simpa using ho)
  have h5 := List.all_eq_true.1 h4 e (by simpa using he)
  simpa [hb] using h5
 ·
  simp only [List.size_toArray] at hk
  simp [hk]
theorem wp_region_M {P : Program} {Q : Exit → Act → World → Prop} {id : Nat} {os : List Oper} (l : Sched) {a : Act} {w : World} (hm : P.follows .mixedOrders = true)
  (hB : fastB os.toArray l = true) (hQ : ∀ c a d v w, Q (.panic c) (a.put d v) w → Q (.panic c) a w)
  (h : wpF P os.toArray Q l w a w.drew) : (Code.region id os.toArray true).wp P Q a w := wp_region_MG relFut l hm hB hQ h
end
end Go.Proofs.YtajbmdjlfniofaaDoor
/-
  Words for memory: a slice that reads as a list (of one-cell elements, of structs); rows of the call's own; all kept while memory only grows.
-/
namespace Go.Proofs.YtajbmdjlfniofaaDoor
open Go.RowKit

/-! ### lists -/
section
variable {α β : Type}
theorem flat_len (enc : α → List β) (sz : Nat) (h : ∀ a, (enc a).length = sz) (l : List α) : (l.flatMap enc).length = l.length * sz := by
 induction l with
 | nil => simp
 | cons a l ih => simp only [List.flatMap_cons, List.length_append, List.length_cons, h, ih, Nat.add_mul, Nat.one_mul]; omega
theorem flat_get (enc : α → List β) (sz : Nat) (h : ∀ a, (enc a).length = sz) : ∀ (l : List α) (i : Nat) (a : α) (j : Nat), l[i]? = some a → j < sz → (l.flatMap enc)[i * sz + j]? = (enc a)[j]? := by
 intro l
 induction l with
 | nil => intro i a j hi; simp at hi
 | cons x l ih =>
  intro i a j hi hj
  cases i with
  | zero =>
   simp only [List.getElem?_cons_zero, Option.some.injEq] at hi
   subst hi
   rw [List.flatMap_cons, List.getElem?_append_left (by rw [h]; omega)]
   simp
  | succ i =>
   rw [List.flatMap_cons, List.getElem?_append_right (by rw [h, Nat.add_mul]; omega)]
   simp only [List.getElem?_cons_succ] at hi
   rw [← ih i a j hi hj, h]
   congr 1
   rw [Nat.add_mul]
   omega
theorem flat_inv (enc : α → List β) (sz : Nat) (h : ∀ a, (enc a).length = sz) : ∀ (l : List α) (k : Nat) (u : β), (l.flatMap enc)[k]? = some u → ∃ i j a, k = i * sz + j ∧ j < sz ∧ l[i]? = some a ∧ (enc a)[j]? = some u := by
 intro l
 induction l with
 | nil => intro k u hk; simp at hk
 | cons x l ih =>
  intro k u hk
  rw [List.flatMap_cons] at hk
  by_cases hlt : k < sz
  ·
   rw [List.getElem?_append_left (by rw [h]; omega)] at hk
   exact ⟨0, k, x, by omega, hlt, rfl, hk⟩
  ·
   rw [List.getElem?_append_right (by rw [h]; omega), h] at hk
   obtain ⟨i, j, a, e, hj, hi, hu⟩ := ih _ u hk
   exact ⟨i + 1, j, a, by rw [Nat.add_mul]; omega, hj, hi, hu⟩
end

/-! ### cells of new blocks -/
theorem cell_al_new (w : World) (cs : Array Value) (t : TypeId) (fr : Nat × Nat) (b i : Nat) (h : b = w.heap.size) : (w.alloc (.cells cs t fr)).cell? ⟨b, i, none⟩ = cs[i]? := by
 subst h
 exact cell_of_row _ _ i cs t fr (heap_alloc_new w _)
theorem cell_al_old (w : World) (o : Obj) (a : Addr) (h : a.block < w.heap.size) : (w.alloc o).cell? a = w.cell? a := World.cell?_alloc_lt _ _ _ h
/-! ### reading -/
section
variable {α : Type} {w w' : World} {A : Option Addr} {f : α → Value} {sz : Nat} {enc : α → List Value} {l : List α}
/-- behind A lie the elements l, of one cell each -/
def Rd1 (w : World) (A : Option Addr) (f : α → Value) (l : List α) : Prop :=
 ∀ (i : Nat) (a : α), l[i]? = some a → ∃ b o, A = some ⟨b, o, none⟩ ∧ w.cell? ⟨b, o + i, none⟩ = some (f a)
/-- behind A lie the elements l, of sz cells each -/
def RdS (w : World) (A : Option Addr) (sz : Nat) (enc : α → List Value) (l : List α) : Prop :=
 ∀ (i : Nat) (a : α), l[i]? = some a → ∃ b o, A = some ⟨b, o, none⟩ ∧ ∀ j u, j < sz → (enc a)[j]? = some u → w.cell? ⟨b, o + i * sz + j, none⟩ = some u
theorem Rd1.nil : Rd1 w A f [] := fun i a h => by simp at h
theorem RdS.nil : RdS w A sz enc [] := fun i a h => by simp at h
theorem Rd1.fut (h : Rd1 w A f l) (hf : Fut w w') : Rd1 w' A f l := fun i a hi => by
 obtain ⟨b, o, e, hc⟩ := h i a hi
 exact ⟨b, o, e, hf.cell hc⟩
theorem RdS.fut (h : RdS w A sz enc l) (hf : Fut w w') : RdS w' A sz enc l := fun i a hi => by
 obtain ⟨b, o, e, hc⟩ := h i a hi
 exact ⟨b, o, e, fun j u hj hu => hf.cell (hc j u hj hu)⟩
theorem Rd1.keep {B : Nat} (h : Rd1 w A f l) (hB : ∀ b o, A = some ⟨b, o, none⟩ → b < B) (hf : Below B w w') : Rd1 w' A f l := fun i a hi => by
 obtain ⟨b, o, e, hc⟩ := h i a hi
 exact ⟨b, o, e, (hf.cell (p := ⟨b, o + i, none⟩) (hB b o e)).trans hc⟩
/-- of a row of the call's own -/
theorem Rd1.of_own {B : Nat} {t : TypeId} {c n : Nat} (h : w.ownsRow B t 1 (.slice A n c) n (l.map f)) : Rd1 w A f l := by
 intro i a hi
 have hl : i < n := by
  have h1 := h.1
  have h2 := (List.getElem?_eq_some_iff.1 hi).1
  simp at h1; omega
 obtain ⟨g, cap, hv, _, hlt⟩ := h.form (by omega)
 have hA : A = some ⟨g, 0, none⟩ := by injection hv
 subst hA
 refine ⟨g, 0, rfl, ?_⟩
 have h1 := h.cells (g := g) rfl i (f a) (by simp [hi])
 have e : (⟨g, 0, none⟩ : Addr).add i = ⟨g, 0 + i, none⟩ := by unfold Addr.add; split <;> simp_all
 rw [e] at h1; exact h1
theorem RdS.of_own {B : Nat} {t : TypeId} {c n : Nat} (he : ∀ a, (enc a).length = sz) (hz : 0 < sz) (h : w.ownsRow B t sz (.slice A n c) n (l.flatMap enc)) : RdS w A sz enc l := by
 intro i a hi
 have hl : i < n := by
  have h1 := h.1
  have h2 := (List.getElem?_eq_some_iff.1 hi).1
  rw [flat_len enc sz he] at h1
  have := Nat.eq_of_mul_eq_mul_right hz h1
  omega
 obtain ⟨g, cap, hv, _, hlt⟩ := h.form (by omega)
 have hA : A = some ⟨g, 0, none⟩ := by injection hv
 subst hA
 refine ⟨g, 0, rfl, fun j u hj hu => ?_⟩
 have h1 := h.cells (g := g) rfl (i * sz + j) u (by rw [flat_get enc sz he l i a j hi hj]; exact hu)
 have e : (⟨g, 0, none⟩ : Addr).add (i * sz + j) = ⟨g, 0 + i * sz + j, none⟩ := by unfold Addr.add; split <;> simp_all
 rw [e] at h1; exact h1
/-- the cells as append asks for them -/
theorem Rd1.news {b o : Nat} (h : Rd1 w (some ⟨b, o, none⟩) f l) : ∀ j u, (l.map f)[j]? = some u → w.cell? ((⟨b, o, none⟩ : Addr).add j) = some u := by
 intro j u hu
 rw [List.getElem?_map] at hu
 obtain ⟨a, ha, rfl⟩ := Option.map_eq_some_iff.1 hu
 obtain ⟨b', o', e, hc⟩ := h j a ha
 simp only [Option.some.injEq, Addr.mk.injEq] at e
 obtain ⟨rfl, rfl, _⟩ := e
 have e : (⟨b, o, none⟩ : Addr).add j = ⟨b, o + j, none⟩ := by unfold Addr.add; split <;> simp_all
 rw [e]; exact hc
theorem RdS.news {b o : Nat} (he : ∀ a, (enc a).length = sz) (h : RdS w (some ⟨b, o, none⟩) sz enc l) : ∀ j u, (l.flatMap enc)[j]? = some u → w.cell? ((⟨b, o, none⟩ : Addr).add j) = some u := by
 intro k u hu
 obtain ⟨i, j, a, rfl, hj, hi, hu⟩ := flat_inv enc sz he l k u hu
 obtain ⟨b', o', e, hc⟩ := h i a hi
 simp only [Option.some.injEq, Addr.mk.injEq] at e
 obtain ⟨rfl, rfl, _⟩ := e
 have e : (⟨b, o, none⟩ : Addr).add (i * sz + j) = ⟨b, o + i * sz + j, none⟩ := by unfold Addr.add; split <;> simp_all [Nat.add_assoc]
 rw [e]; exact hc j u hj hu
end

end Go.Proofs.YtajbmdjlfniofaaDoor
/-
  What every law of this seat closes with: a call that returns true and turns nothing that was there meets the row.
-/
namespace Go.Proofs.YtajbmdjlfniofaaDoor
open Go.ChangeShapes Go.WideShapes Go.ChangeAt Go.RowKit Go.Joins

theorem own : ownKnob Tryd.prog.godebug = none := by kernel_rfl
theorem laidOut : laidOutB Tryd.prog = true := by kernel_rfl

section
variable {H : Type} {enc : TypeId × Value → H} {P : Program}
theorem trodAll_below (hl : laidOutB P = true) {W W' : World} (hb : Below W.heap.size W W') : ∀ (ts : List TypeId) (vs : List Value) (ds : List (DataW H)) (ps : List MemPlace),
  (∀ t ∈ ts, P.readableRec t = true ∧ t < P.types.size) → DataW.TrodAll enc P W 0 (fun _ => true) true ts vs ds ps → (∀ x ∈ ps, x.block < W.heap.size) →
  DataW.TrodAll enc P W' 0 (fun b => decide (b < W.heap.size)) true ts vs ds ps
 | [], [], [], _, _, h, _ => h
 | t :: ts, v :: vs, d :: ds, ps, ht, h, hlt => by
  obtain ⟨p, q, h1, h2, rfl⟩ := h
  obtain ⟨hr, hs⟩ := ht t (List.mem_cons_self)
  exact ⟨p, q, Below.trod hl hr hs h1 hb (fun x hx => hlt x (List.mem_append_left _ hx)), trodAll_below hl hb ts vs ds q (fun t h => ht t (List.mem_cons_of_mem _ h)) h2 (fun x hx => hlt x (List.mem_append_right _ hx)), rfl⟩
 | [], [], _ :: _, _, _, h, _ => h.elim
 | [], _ :: _, _, _, _, h, _ => h.elim
 | _ :: _, [], _, _, _, h, _ => h.elim
 | _ :: _, _ :: _, [], _, _, h, _ => h.elim

theorem law_post {f : Func} {s : ChangeSpec} {tb : TypeId} (hl : laidOutB P = true) (hvars : s.vars = []) (hTs : (f.params.toList.all fun t => P.readableRec t && decide (t < P.types.size)) = true)
  (hres : f.resultTypes = #[tb]) (htb : P.underlying tb = some .bool) {W W' : World} {args : Array Value} {ds gs : List (DataW H)} {before : List MemPlace}
  (hW : DataW.Whole enc P f.params.toList s.vars false W args.toList ds gs before) (hfn : s.fn H (ds ++ gs) = { results := [.lit (.bool true)], args := ds }) (hb : Below W.heap.size W W') :
  s.post enc P f false true false false W args (.bool true) W' := by
 have hlt : ∀ p ∈ before, p.block < W.heap.size := fun p hp => hW.lt p hp
 have hW0 := hW
 obtain ⟨p, q, hA, hV, rfl, _, _⟩ := hW
 rw [hvars] at hV
 obtain ⟨rfl, rfl⟩ := trodVars_none hV
 refine ⟨ds, [], p ++ [], [], p, [], hW0, ?_, ?_, ?_, hb.frame _, fun h => by cases h⟩
 ·
  rw [hfn, hres]
  exact trodAll_mk1 (shut_bool htb _)
 ·
  rw [hfn]
  refine trodAll_below hl hb _ _ _ _ (fun t ht => ?_) hA (fun x hx => hlt x (by simpa using hx))
  have := List.all_eq_true.1 hTs t ht
  simpa using this
 ·
  rw [hfn, hvars]; rfl
end
end Go.Proofs.YtajbmdjlfniofaaDoor
/-
  The orders of the regions that draw, one for each (found by program; checked where they are used).
-/
namespace Go.Proofs.YtajbmdjlfniofaaDoor
def o_emendatelaw31_KbestFirst_4 : Sched := .one 0 (.hoist 1 (.hoist 2 (.hoist 3 (.hoist 4 (.hoist 5 (.hoist 7 (.hoist 8 (.hoist 9 (.one 6 (.one 10 (.one 11 (.hoist 12 (.hoist 13 (.done))))))))))))))
def o_emendatelaw31_awake_5 : Sched := .hoist 0 (.hoist 1 (.hoist 3 (.one 2 (.one 4 (.hoist 5 (.hoist 6 (.hoist 7 (.hoist 9 (.hoist 10 (.one 8 (.one 11 (.hoist 12 (.hoist 13 (.hoist 14 (.hoist 15 (.hoist 16 (.hoist 17 (.hoist 18 (.hoist 19 (.hoist 20 (.one 21 (.hoist 22 (.hoist 23 (.hoist 24 (.one 25 (.hoist 26 (.hoist 27 (.hoist 28 (.hoist 29 (.done))))))))))))))))))))))))))))))
def o_emendateref31_Same_6 : Sched := .hoist 0 (.hoist 1 (.hoist 2 (.hoist 3 (.hoist 4 (.hoist 5 (.hoist 6 (.hoist 7 (.one 8 (.hoist 9 (.done))))))))))
def o_emendateref31_First_20 : Sched := .hoist 0 (.hoist 1 (.hoist 2 (.hoist 3 (.hoist 4 (.hoist 5 (.hoist 6 (.hoist 7 (.hoist 8 (.hoist 9 (.hoist 10 (.hoist 11 (.hoist 12 (.hoist 13 (.done))))))))))))))
def o_emendateref31_First_22 : Sched := .hoist 0 (.hoist 1 (.hoist 2 (.hoist 3 (.hoist 4 (.hoist 5 (.hoist 6 (.hoist 7 (.hoist 8 (.hoist 9 (.hoist 10 (.hoist 11 (.hoist 12 (.hoist 13 (.one 14 (.one 15 (.hoist 16 (.done)))))))))))))))))
def o_emendateref31_First_25 : Sched := .hoist 0 (.hoist 1 (.hoist 2 (.hoist 3 (.hoist 4 (.hoist 5 (.hoist 6 (.hoist 7 (.hoist 8 (.hoist 9 (.hoist 10 (.hoist 11 (.one 12 (.hoist 13 (.hoist 14 (.hoist 15 (.hoist 16 (.hoist 17 (.done))))))))))))))))))
def o_emendateref31_First_33 : Sched := .hoist 0 (.hoist 1 (.hoist 2 (.hoist 3 (.hoist 4 (.hoist 5 (.hoist 6 (.hoist 7 (.hoist 8 (.hoist 9 (.hoist 10 (.hoist 11 (.hoist 12 (.done)))))))))))))
def o_emendateref30_Value_5 : Sched := .hoist 0 (.hoist 1 (.hoist 2 (.hoist 3 (.hoist 4 (.hoist 5 (.hoist 6 (.one 7 (.one 8 (.one 9 (.hoist 10 (.done)))))))))))
def o_emendateref30_Compare_1 : Sched := .hoist 0 (.hoist 1 (.hoist 3 (.hoist 4 (.many [2, 6, 7] (fun q => if q = 2 then (.many [5, 6, 7] (fun q => if q = 5 then (.two 6 (.one 7 (.one 8 (.one 9 (.done)))) 7 (.one 6 (.one 8 (.one 9 (.done))))) else if q = 6 then (.two 5 (.one 7 (.one 8 (.one 9 (.done)))) 7 (.one 5 (.one 8 (.one 9 (.done))))) else if q = 7 then (.two 5 (.one 6 (.one 8 (.one 9 (.done)))) 6 (.one 5 (.one 8 (.one 9 (.done))))) else .done)) else if q = 6 then (.two 2 (.two 5 (.one 7 (.one 8 (.one 9 (.done)))) 7 (.one 5 (.one 8 (.one 9 (.done))))) 7 (.one 2 (.one 5 (.one 8 (.one 9 (.done)))))) else if q = 7 then (.two 2 (.two 5 (.one 6 (.one 8 (.one 9 (.done)))) 6 (.one 5 (.one 8 (.one 9 (.done))))) 6 (.one 2 (.one 5 (.one 8 (.one 9 (.done)))))) else .done)))))
def o_emendateref30_Compare_13 : Sched := .hoist 0 (.hoist 1 (.hoist 2 (.hoist 3 (.hoist 4 (.hoist 5 (.hoist 6 (.hoist 7 (.hoist 8 (.hoist 9 (.hoist 10 (.one 11 (.hoist 12 (.done)))))))))))))
def o_emendateref31_equal_6 : Sched := .hoist 0 (.hoist 1 (.hoist 2 (.hoist 3 (.hoist 4 (.hoist 5 (.hoist 6 (.hoist 7 (.hoist 8 (.hoist 9 (.one 10 (.hoist 11 (.done))))))))))))
def o_emendateref31_insert_3 : Sched := .hoist 0 (.hoist 1 (.hoist 2 (.hoist 3 (.hoist 4 (.hoist 5 (.one 6 (.hoist 7 (.done))))))))
def o_emendateref31_insert_10 : Sched := .hoist 1 (.hoist 2 (.hoist 3 (.hoist 5 (.hoist 8 (.hoist 9 (.hoist 10 (.two 0 (.two 4 (.one 6 (.one 7 (.one 11 (.hoist 12 (.done))))) 6 (.one 4 (.one 7 (.one 11 (.hoist 12 (.done)))))) 6 (.one 0 (.one 4 (.one 7 (.one 11 (.hoist 12 (.done)))))))))))))
def o_emendateref29_Combine_5 : Sched := .hoist 0 (.hoist 1 (.hoist 2 (.hoist 3 (.hoist 4 (.hoist 5 (.hoist 6 (.hoist 7 (.hoist 8 (.hoist 9 (.hoist 10 (.hoist 11 (.hoist 12 (.hoist 13 (.hoist 14 (.hoist 15 (.hoist 16 (.hoist 17 (.done))))))))))))))))))
def o_knuth_Solve_1 : Sched := .hoist 0 (.hoist 1 (.hoist 2 (.hoist 4 (.hoist 5 (.hoist 7 (.hoist 8 (.hoist 9 (.hoist 11 (.hoist 12 (.many [3, 6, 10, 13] (fun q => if q = 3 then (.many [6, 10, 13] (fun q => if q = 6 then (.two 10 (.one 13 (.hoist 14 (.one 15 (.hoist 16 (.done))))) 13 (.one 10 (.hoist 14 (.one 15 (.hoist 16 (.done)))))) else if q = 10 then (.two 6 (.one 13 (.hoist 14 (.one 15 (.hoist 16 (.done))))) 13 (.one 6 (.hoist 14 (.one 15 (.hoist 16 (.done)))))) else if q = 13 then (.two 6 (.one 10 (.hoist 14 (.one 15 (.hoist 16 (.done))))) 10 (.one 6 (.hoist 14 (.one 15 (.hoist 16 (.done)))))) else .done)) else if q = 6 then (.many [3, 10, 13] (fun q => if q = 3 then (.two 10 (.one 13 (.hoist 14 (.one 15 (.hoist 16 (.done))))) 13 (.one 10 (.hoist 14 (.one 15 (.hoist 16 (.done)))))) else if q = 10 then (.two 3 (.one 13 (.hoist 14 (.one 15 (.hoist 16 (.done))))) 13 (.one 3 (.hoist 14 (.one 15 (.hoist 16 (.done)))))) else if q = 13 then (.two 3 (.one 10 (.hoist 14 (.one 15 (.hoist 16 (.done))))) 10 (.one 3 (.hoist 14 (.one 15 (.hoist 16 (.done)))))) else .done)) else if q = 10 then (.many [3, 6, 13] (fun q => if q = 3 then (.two 6 (.one 13 (.hoist 14 (.one 15 (.hoist 16 (.done))))) 13 (.one 6 (.hoist 14 (.one 15 (.hoist 16 (.done)))))) else if q = 6 then (.two 3 (.one 13 (.hoist 14 (.one 15 (.hoist 16 (.done))))) 13 (.one 3 (.hoist 14 (.one 15 (.hoist 16 (.done)))))) else if q = 13 then (.two 3 (.one 6 (.hoist 14 (.one 15 (.hoist 16 (.done))))) 6 (.one 3 (.hoist 14 (.one 15 (.hoist 16 (.done)))))) else .done)) else if q = 13 then (.many [3, 6, 10] (fun q => if q = 3 then (.two 6 (.one 10 (.hoist 14 (.one 15 (.hoist 16 (.done))))) 10 (.one 6 (.hoist 14 (.one 15 (.hoist 16 (.done)))))) else if q = 6 then (.two 3 (.one 10 (.hoist 14 (.one 15 (.hoist 16 (.done))))) 10 (.one 3 (.hoist 14 (.one 15 (.hoist 16 (.done)))))) else if q = 10 then (.two 3 (.one 6 (.hoist 14 (.one 15 (.hoist 16 (.done))))) 6 (.one 3 (.hoist 14 (.one 15 (.hoist 16 (.done)))))) else .done)) else .done)))))))))))
def o_knuth_Solve_13 : Sched := .hoist 0 (.hoist 1 (.hoist 2 (.hoist 3 (.hoist 4 (.hoist 5 (.hoist 6 (.hoist 7 (.hoist 8 (.one 9 (.done))))))))))
def o_knuth_Solve_17 : Sched := .hoist 0 (.hoist 1 (.hoist 2 (.hoist 3 (.hoist 4 (.hoist 5 (.hoist 6 (.hoist 7 (.hoist 8 (.hoist 9 (.hoist 10 (.hoist 11 (.hoist 12 (.one 13 (.one 14 (.hoist 15 (.one 16 (.done)))))))))))))))))
def o_knuth_Solve_28 : Sched := .hoist 0 (.hoist 1 (.hoist 2 (.hoist 3 (.hoist 4 (.hoist 5 (.hoist 6 (.hoist 7 (.hoist 8 (.done)))))))))
def o_knuth_Solve_33 : Sched := .hoist 0 (.hoist 1 (.hoist 2 (.hoist 3 (.hoist 4 (.hoist 5 (.hoist 6 (.hoist 7 (.hoist 8 (.hoist 9 (.hoist 10 (.hoist 11 (.hoist 12 (.hoist 13 (.hoist 14 (.hoist 15 (.hoist 16 (.hoist 17 (.hoist 18 (.hoist 20 (.hoist 21 (.hoist 22 (.hoist 23 (.hoist 24 (.hoist 25 (.hoist 26 (.hoist 27 (.one 19 (.hoist 28 (.hoist 29 (.done))))))))))))))))))))))))))))))
def o_derivation_follow_5 : Sched := .hoist 0 (.hoist 1 (.hoist 2 (.hoist 3 (.hoist 4 (.one 5 (.one 6 (.one 7 (.hoist 8 (.one 9 (.done))))))))))
def o_emendateref29_Solve_14 : Sched := .hoist 0 (.hoist 1 (.hoist 2 (.hoist 3 (.two 4 (.two 5 (.one 6 (.one 7 (.done))) 6 (.one 5 (.one 7 (.done)))) 6 (.one 4 (.one 5 (.one 7 (.done))))))))
def o_emendateref29_Solve_15 : Sched := .hoist 0 (.hoist 1 (.hoist 2 (.hoist 3 (.hoist 4 (.hoist 5 (.one 6 (.done)))))))
def o_emendateref29_Solve_23 : Sched := .hoist 0 (.hoist 1 (.hoist 2 (.hoist 3 (.hoist 4 (.hoist 5 (.hoist 6 (.hoist 7 (.hoist 10 (.one 8 (.one 9 (.hoist 11 (.hoist 12 (.done)))))))))))))
def o_kbest_newLister_6 : Sched := .hoist 0 (.hoist 1 (.hoist 2 (.hoist 3 (.hoist 4 (.hoist 5 (.hoist 6 (.hoist 7 (.hoist 8 (.hoist 9 (.hoist 10 (.hoist 11 (.hoist 13 (.two 12 (.one 14 (.one 15 (.one 16 (.done)))) 14 (.one 12 (.one 15 (.one 16 (.done)))))))))))))))))
def o_knuth_solver_offer_2 : Sched := .hoist 0 (.hoist 1 (.hoist 2 (.hoist 3 (.hoist 4 (.hoist 5 (.hoist 6 (.hoist 7 (.hoist 8 (.hoist 9 (.hoist 10 (.hoist 11 (.hoist 12 (.hoist 13 (.done))))))))))))))
def o_knuth_solver_offer_3 : Sched := .hoist 0 (.hoist 1 (.hoist 2 (.hoist 3 (.hoist 4 (.hoist 5 (.hoist 6 (.hoist 7 (.one 8 (.done)))))))))
def o_pqueue_Queue_knuth_candidate_Pop_3 : Sched := .hoist 0 (.hoist 1 (.hoist 2 (.hoist 3 (.hoist 4 (.hoist 5 (.hoist 6 (.hoist 7 (.hoist 8 (.hoist 9 (.hoist 10 (.hoist 11 (.one 12 (.one 13 (.hoist 14 (.done)))))))))))))))
def o_pqueue_Queue_knuth_candidate_Pop_6 : Sched := .hoist 0 (.hoist 1 (.hoist 2 (.hoist 3 (.hoist 4 (.hoist 5 (.one 6 (.done)))))))
def o_knuth_solver_settle_1 : Sched := .hoist 0 (.hoist 1 (.hoist 2 (.hoist 3 (.hoist 4 (.hoist 5 (.hoist 6 (.hoist 7 (.hoist 8 (.hoist 9 (.hoist 10 (.hoist 11 (.hoist 12 (.hoist 13 (.hoist 14 (.one 15 (.hoist 16 (.one 17 (.done))))))))))))))))))
def o_knuth_solver_settle_2 : Sched := .hoist 0 (.hoist 1 (.hoist 2 (.hoist 3 (.hoist 4 (.hoist 5 (.hoist 6 (.hoist 7 (.hoist 8 (.hoist 9 (.done))))))))))
def o_emendateref27_Valid_12 : Sched := .hoist 0 (.hoist 1 (.hoist 2 (.hoist 3 (.hoist 4 (.hoist 5 (.hoist 6 (.hoist 7 (.hoist 8 (.hoist 9 (.hoist 10 (.hoist 11 (.hoist 12 (.hoist 13 (.hoist 14 (.hoist 15 (.done))))))))))))))))
def o_kbest_lister_extend_18 : Sched := .hoist 0 (.hoist 1 (.hoist 2 (.hoist 3 (.hoist 4 (.hoist 5 (.one 6 (.one 7 (.hoist 8 (.hoist 9 (.one 10 (.done)))))))))))
def o_pqueue_Queue_knuth_candidate_Push_1 : Sched := .hoist 0 (.hoist 1 (.hoist 2 (.hoist 3 (.hoist 4 (.hoist 5 (.hoist 6 (.hoist 7 (.hoist 8 (.hoist 9 (.hoist 10 (.done)))))))))))
def o_pqueue_Queue_knuth_candidate_Push_2 : Sched := .hoist 0 (.hoist 1 (.hoist 2 (.hoist 3 (.hoist 4 (.hoist 5 (.hoist 6 (.hoist 7 (.hoist 8 (.hoist 9 (.hoist 10 (.hoist 11 (.one 12 (.one 13 (.hoist 14 (.hoist 15 (.one 16 (.done)))))))))))))))))
def o_pqueue_Queue_knuth_candidate_swap_0 : Sched := .hoist 0 (.hoist 1 (.hoist 2 (.hoist 3 (.hoist 4 (.hoist 5 (.hoist 6 (.hoist 7 (.hoist 8 (.hoist 9 (.hoist 10 (.hoist 11 (.hoist 12 (.hoist 13 (.hoist 14 (.hoist 15 (.hoist 16 (.hoist 17 (.hoist 18 (.hoist 19 (.hoist 20 (.hoist 21 (.hoist 22 (.hoist 23 (.hoist 24 (.one 25 (.hoist 26 (.one 27 (.done))))))))))))))))))))))))))))
def o_pqueue_Queue_knuth_candidate_swap_1 : Sched := .hoist 0 (.hoist 1 (.hoist 2 (.hoist 3 (.hoist 4 (.hoist 5 (.hoist 6 (.hoist 7 (.hoist 8 (.hoist 9 (.hoist 10 (.hoist 11 (.hoist 12 (.hoist 13 (.hoist 14 (.hoist 15 (.hoist 16 (.hoist 17 (.hoist 18 (.hoist 19 (.hoist 20 (.hoist 21 (.hoist 22 (.hoist 23 (.hoist 24 (.hoist 25 (.one 26 (.hoist 27 (.one 28 (.one 29 (.hoist 30 (.one 31 (.done))))))))))))))))))))))))))))))))
def o_kbest_lister_at_1_3 : Sched := .hoist 0 (.hoist 1 (.hoist 2 (.hoist 3 (.hoist 4 (.hoist 5 (.hoist 6 (.hoist 7 (.one 8 (.hoist 9 (.hoist 10 (.done)))))))))))
def o_derivation_Compare_1 : Sched := .hoist 0 (.hoist 1 (.hoist 3 (.hoist 4 (.one 2 (.one 5 (.one 6 (.hoist 7 (.done))))))))
def o_derivation_Compare_12 : Sched := .hoist 0 (.hoist 1 (.hoist 2 (.hoist 3 (.hoist 4 (.hoist 5 (.hoist 6 (.one 7 (.hoist 8 (.done)))))))))
def o_kbest_lister_begin_4 : Sched := .hoist 0 (.hoist 1 (.hoist 2 (.hoist 3 (.hoist 4 (.hoist 5 (.hoist 6 (.hoist 7 (.hoist 8 (.hoist 9 (.hoist 10 (.two 11 (.hoist 12 (.one 13 (.one 14 (.done)))) 13 (.one 11 (.hoist 12 (.one 14 (.done)))))))))))))))
def o_kbest_lister_begin_5 : Sched := .hoist 0 (.hoist 1 (.hoist 2 (.hoist 3 (.hoist 4 (.hoist 5 (.one 6 (.one 7 (.hoist 8 (.hoist 9 (.one 10 (.done)))))))))))
def o_kbest_lister_begin_6 : Sched := .hoist 0 (.hoist 1 (.hoist 2 (.hoist 3 (.hoist 4 (.hoist 5 (.hoist 6 (.hoist 7 (.one 8 (.one 9 (.done))))))))))
def o_kbest_lister_offer_15 : Sched := .hoist 0 (.hoist 1 (.hoist 2 (.hoist 3 (.hoist 4 (.one 5 (.done))))))
def o_pqueue_Queue_kbest_candidate_Pop_3 : Sched := .hoist 0 (.hoist 1 (.hoist 2 (.hoist 3 (.hoist 4 (.hoist 5 (.hoist 6 (.hoist 7 (.hoist 8 (.hoist 9 (.hoist 10 (.hoist 11 (.one 12 (.one 13 (.hoist 14 (.done)))))))))))))))
def o_pqueue_Queue_kbest_candidate_Pop_6 : Sched := .hoist 0 (.hoist 1 (.hoist 2 (.hoist 3 (.hoist 4 (.hoist 5 (.one 6 (.done)))))))
def o_pqueue_Queue_knuth_candidate_before_1 : Sched := .hoist 0 (.hoist 1 (.hoist 2 (.hoist 3 (.hoist 4 (.hoist 5 (.hoist 6 (.hoist 7 (.hoist 8 (.hoist 9 (.hoist 10 (.hoist 11 (.hoist 12 (.hoist 13 (.two 14 (.one 15 (.one 16 (.one 17 (.done)))) 15 (.one 14 (.one 16 (.one 17 (.done))))))))))))))))))
def o_pqueue_Queue_knuth_candidate_before_2 : Sched := .hoist 0 (.hoist 1 (.hoist 2 (.hoist 3 (.hoist 4 (.hoist 5 (.hoist 6 (.hoist 7 (.one 8 (.done)))))))))
def o_pqueue_Queue_knuth_candidate_before_4 : Sched := .hoist 0 (.hoist 1 (.hoist 2 (.hoist 3 (.hoist 4 (.hoist 5 (.hoist 6 (.hoist 7 (.one 8 (.hoist 9 (.hoist 10 (.hoist 11 (.hoist 12 (.hoist 13 (.hoist 14 (.hoist 15 (.hoist 16 (.hoist 17 (.done))))))))))))))))))
def o_pqueue_Queue_kbest_candidate_Push_1 : Sched := .hoist 0 (.hoist 1 (.hoist 2 (.hoist 3 (.hoist 4 (.hoist 5 (.hoist 6 (.hoist 7 (.hoist 8 (.hoist 9 (.hoist 10 (.done)))))))))))
def o_pqueue_Queue_kbest_candidate_Push_2 : Sched := .hoist 0 (.hoist 1 (.hoist 2 (.hoist 3 (.hoist 4 (.hoist 5 (.hoist 6 (.hoist 7 (.hoist 8 (.hoist 9 (.hoist 10 (.hoist 11 (.one 12 (.one 13 (.hoist 14 (.hoist 15 (.one 16 (.done)))))))))))))))))
def o_pqueue_Queue_kbest_candidate_swap_0 : Sched := .hoist 0 (.hoist 1 (.hoist 2 (.hoist 3 (.hoist 4 (.hoist 5 (.hoist 6 (.hoist 7 (.hoist 8 (.hoist 9 (.hoist 10 (.hoist 11 (.hoist 12 (.hoist 13 (.hoist 14 (.hoist 15 (.hoist 16 (.hoist 17 (.hoist 18 (.hoist 19 (.hoist 20 (.hoist 21 (.hoist 22 (.hoist 23 (.hoist 24 (.one 25 (.hoist 26 (.one 27 (.done))))))))))))))))))))))))))))
def o_pqueue_Queue_kbest_candidate_swap_1 : Sched := .hoist 0 (.hoist 1 (.hoist 2 (.hoist 3 (.hoist 4 (.hoist 5 (.hoist 6 (.hoist 7 (.hoist 8 (.hoist 9 (.hoist 10 (.hoist 11 (.hoist 12 (.hoist 13 (.hoist 14 (.hoist 15 (.hoist 16 (.hoist 17 (.hoist 18 (.hoist 19 (.hoist 20 (.hoist 21 (.hoist 22 (.hoist 23 (.hoist 24 (.hoist 25 (.one 26 (.hoist 27 (.one 28 (.one 29 (.hoist 30 (.one 31 (.done))))))))))))))))))))))))))))))))
def o_pqueue_Queue_kbest_candidate_before_1 : Sched := .hoist 0 (.hoist 1 (.hoist 2 (.hoist 3 (.hoist 4 (.hoist 5 (.hoist 6 (.hoist 7 (.hoist 8 (.hoist 9 (.hoist 10 (.hoist 11 (.hoist 12 (.hoist 13 (.two 14 (.one 15 (.one 16 (.one 17 (.done)))) 15 (.one 14 (.one 16 (.one 17 (.done))))))))))))))))))
def o_pqueue_Queue_kbest_candidate_before_2 : Sched := .hoist 0 (.hoist 1 (.hoist 2 (.hoist 3 (.hoist 4 (.hoist 5 (.hoist 6 (.hoist 7 (.one 8 (.done)))))))))
def o_pqueue_Queue_kbest_candidate_before_4 : Sched := .hoist 0 (.hoist 1 (.hoist 2 (.hoist 3 (.hoist 4 (.hoist 5 (.hoist 6 (.hoist 7 (.one 8 (.hoist 9 (.hoist 10 (.hoist 11 (.hoist 12 (.hoist 13 (.hoist 14 (.hoist 15 (.hoist 16 (.hoist 17 (.done))))))))))))))))))
end Go.Proofs.YtajbmdjlfniofaaDoor
