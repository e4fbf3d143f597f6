/-
  Regions that draw their order: one canonical order serves every order, where what is hoisted yields the same value in every later world, and what is not hoisted only adds to memory (or comes last).
-/
import Derived.OrdersHeld
import Derived.Below
import Derived.WalkKit
import Derived.Lib.QuietBelow
namespace Go.Proofs.YtlgpacpebjechaaGreatDoor
open Go.RowKit Go.Sort

/-- w' is w with new blocks (and draws) -/
def Fut (w w' : World) : Prop := Below w.heap.size w w'
theorem Fut.refl (w : World) : Fut w w := Below.refl _ _
theorem Fut.trans {a b c : World} (h : Fut a b) (k : Fut b c) : Fut a c := Below.trans h (Below.mono k h.size)
theorem Fut.of {w w' : World} (h : Below w.heap.size w w') : Fut w w' := h
theorem Fut.below {w w' : World} (h : Fut w w') : Below w.heap.size w w' := h
theorem Fut.drew {a b : World} (h : Fut a b) : Fut a b.drew := Below.drew h
theorem Fut.alloc {a b : World} (h : Fut a b) (o : Obj) : Fut a (b.alloc o) := Below.alloc h h.size o
theorem Fut.setCell {a b : World} (h : Fut a b) {p : Addr} (hp : a.heap.size ≤ p.block) (u : Value) : Fut a (b.setCell p u) := Below.setCell h hp u
theorem Fut.cell {a b : World} (h : Fut a b) {p : Addr} {v : Value} (hv : a.cell? p = some v) : b.cell? p = some v :=
  (Below.cell h (World.block_lt_of_cell? a p hv)).trans hv

/-- operation i waits for every other one -/
def isLast (ops : Array Oper) (i : Nat) : Bool :=
  (List.range ops.size).all fun k => k == i || ((ops[i]?).map (·.after.any fun e => Region.binds .any e && e.on == k)).getD false

/-- operation a waits for b -/
def dep (ops : Array Oper) (a b : Nat) : Bool := ((ops[a]?).map (·.after.any fun e => Region.binds .any e && e.on == b)).getD false
/-- the same, by way of at most n others -/
def reachD (ops : Array Oper) : Nat → Nat → Nat → Bool
  | 0, a, b => dep ops a b
  | n + 1, a, b => dep ops a b || (List.range ops.size).any fun c => dep ops a c && reachD ops n c b
def dep3 (ops : Array Oper) (a b : Nat) : Bool := reachD ops 5 a b
/-- an operation that looks at no world -/
def insens : Op → Bool
  | .move _ => true
  | _ => false
def insensAt (ops : Array Oper) (k : Nat) : Bool := ((ops[k]?).map fun o => insens o.op).getD false
theorem insens_run {P : Program} {o : Oper} {ρ : Operand → Value} (h : insens o.op = true) {v : Value} {w w1 : World} (hr : (execOp ρ o).run P w = .ok (.value v) w1) (w' : World) : (execOp ρ o).run P w' = .ok (.value v) w' := by
  obtain ⟨dst, op, ty, pos, after, guard⟩ := o
  cases op with
  | move x =>
    simp [execOp] at hr ⊢
    exact hr.1
  | _ => cases h
/-- every other operation waits for i, or i for it, or looks at no world -/
def late (ops : Array Oper) (i : Nat) : Bool :=
  (List.range ops.size).all fun k => k == i || dep3 ops i k || dep3 ops k i || insensAt ops k
theorem late_of_last {ops : Array Oper} {i : Nat} (h : isLast ops i = true) : late ops i = true := by
  refine List.all_eq_true.2 fun k hk => ?_
  have h1 := List.all_eq_true.1 h k hk
  rw [Bool.or_eq_true] at h1 ⊢
  left
  rw [Bool.or_eq_true]
  left
  rcases h1 with h1 | h1
  · rw [Bool.or_eq_true]; exact .inl h1
  · rw [Bool.or_eq_true]; exact .inr (by show (dep ops i k || _) = true; rw [Bool.or_eq_true]; exact .inl h1)
/-- whatever is listed, what it waits for is listed too -/
def Closed (ops : Array Oper) (listed : Array Bool) : Prop := ∀ j, j < ops.size → listed.getD j true = true → ∀ k, dep ops j k = true → listed.getD k true = true
theorem closed_start (ops : Array Oper) : Closed ops (Array.replicate ops.size false) := by
  intro j hj h
  simp [hj] at h
theorem getD_set_mono {listed : Array Bool} {i k : Nat} (h : listed.getD k true = true) : (listed.setIfInBounds i true).getD k true = true := by
  by_cases e : i = k
  · subst e
    rw [Array.getD_eq_getD_getElem?, Array.getElem?_setIfInBounds, if_pos rfl]
    by_cases hlt : i < listed.size
    · rw [if_pos hlt]; rfl
    · rw [if_neg hlt]; rfl
  · rw [getD_set_ne true e]; exact h
theorem dep_of_ready {ops : Array Oper} {listed : Array Bool} {j k : Nat} (hj : j ∈ Region.ready .any ops listed) (hd : dep ops j k = true) : listed.getD k true = true := by
  obtain ⟨_, oj, hoj, hall⟩ := mem_ready.1 hj
  unfold dep at hd
  rw [hoj] at hd
  simp only [Option.map_some, Option.getD_some] at hd
  obtain ⟨e, he, hb⟩ := Array.any_eq_true'.1 hd
  simp only [Bool.and_eq_true, beq_iff_eq] at hb
  have h2 := hall e he hb.1
  rw [hb.2] at h2
  rcases Nat.lt_or_ge k listed.size with h' | h'
  · simp [h'] at h2 ⊢; exact h2
  · simp [Array.getElem?_eq_none h']
theorem Closed.set {ops : Array Oper} {listed : Array Bool} {i : Nat} (h : Closed ops listed) (hi : i ∈ Region.ready .any ops listed) : Closed ops (listed.setIfInBounds i true) := by
  intro j hj hl k hk
  refine getD_set_mono ?_
  by_cases e : i = j
  · subst e; exact dep_of_ready hi hk
  · rw [getD_set_ne true e] at hl
    exact h j hj hl k hk
theorem dep_lt {ops : Array Oper} {a b : Nat} (h : dep ops a b = true) : a < ops.size := by
  unfold dep at h
  rcases Nat.lt_or_ge a ops.size with h' | h'
  · exact h'
  · rw [Array.getElem?_eq_none h'] at h; simp at h
theorem reachD_closed {ops : Array Oper} {listed : Array Bool} {k : Nat} (hc : Closed ops listed) : ∀ (n c : Nat), c < ops.size → listed.getD c true = true → reachD ops n c k = true → listed.getD k true = true
  | 0, c, hl, h, hd => hc c hl h k hd
  | n + 1, c, hl, h, hd => by
    unfold reachD at hd
    rw [Bool.or_eq_true] at hd
    rcases hd with hd | hd
    · exact hc c hl h k hd
    · obtain ⟨d, hdr, h3⟩ := List.any_eq_true.1 hd
      simp only [Bool.and_eq_true] at h3
      exact reachD_closed hc n d (List.mem_range.1 hdr) (hc c hl h d h3.1) h3.2
theorem dep3_of_ready {ops : Array Oper} {listed : Array Bool} {j k : Nat} (hc : Closed ops listed) (hj : j ∈ Region.ready .any ops listed) (hd : dep3 ops j k = true) : listed.getD k true = true := by
  unfold dep3 reachD at hd
  rw [Bool.or_eq_true] at hd
  rcases hd with hd | hd
  · exact dep_of_ready hj hd
  · obtain ⟨c, hcr, hd⟩ := List.any_eq_true.1 hd
    simp only [Bool.and_eq_true] at hd
    exact reachD_closed hc 4 c (List.mem_range.1 hcr) (dep_of_ready hj hd.1) hd.2

/-- a relation that says what the operations of a region leave as it was -/
structure RelW (R : World → World → Prop) : Prop where
  refl : ∀ w, R w w
  trans : ∀ {a b c}, R a b → R b c → R a c
  of_fut : ∀ {a b}, Fut a b → R a b
theorem relFut : RelW Fut := ⟨Fut.refl, Fut.trans, id⟩

section
variable {P : Program} {ops : Array Oper} {Q : Exit → Act → World → Prop} {b : World} {R : World → World → Prop}

/-- whatever order is picked from here on; behind each operation the world has only grown, but behind the last one -/
def wpAnyF (R : World → World → Prop) (P : Program) (ops : Array Oper) (Q : Exit → Act → World → Prop) : Nat → Array Bool → Act → World → Prop
  | 0, listed, a, w => Region.ready .any ops listed = [] ∧ Q .normal a w
  | fuel + 1, listed, a, w =>
    (Region.ready .any ops listed = [] → Q .normal a w) ∧
    ∀ i ∈ Region.ready .any ops listed, wpOp P ops Q i (fun a' w' => (late ops i = true ∨ R w w') ∧ wpAnyF R P ops Q fuel (listed.setIfInBounds i true) a' w') a w

theorem wpAny_of_F : ∀ (fuel : Nat) (listed : Array Bool) (a : Act) (w : World), wpAnyF R P ops Q fuel listed a w → wpAny P .any ops Q fuel listed a w
  | 0, _, _, _, h => h
  | fuel + 1, _, _, _, h => ⟨h.1, fun i hi => wpOp_mono (fun a' w' h' => wpAny_of_F fuel _ a' w' h'.2) (h.2 i hi)⟩

theorem not_last_of_ready {i j : Nat} {listed : Array Bool} (hc : Closed ops listed) (hne : j ≠ i) (hi : i ∈ Region.ready .any ops listed) (hj : j ∈ Region.ready .any ops listed) : late ops j = false ∨ insensAt ops i = true := by
  have key : ∀ {i : Nat}, i ∈ Region.ready .any ops listed → listed.getD i true = true → False := by
    intro i hi h
    have h0 := (mem_ready.1 hi).1
    rw [h0] at h; cases h
  cases hl : late ops j with
  | false => exact .inl rfl
  | true =>
    right
    obtain ⟨_, oi, hoi, _⟩ := mem_ready.1 hi
    have hlt : i < ops.size := (Array.getElem?_eq_some_iff.1 hoi).1
    have h1 := List.all_eq_true.1 hl i (List.mem_range.2 hlt)
    simp only [Bool.or_eq_true, beq_iff_eq] at h1
    rcases h1 with ((h1 | h1) | h1) | h1
    · exact absurd h1.symm hne
    · exact (key hi (dep3_of_ready hc hj h1)).elim
    · exact (key hj (dep3_of_ready hc hi h1)).elim
    · exact h1

theorem yieldsIf_mono {S S' : World → Prop} {o : Oper} {v : Value} {a : Act} (h : ∀ w, S' w → S w) (hy : YieldsIf P ops S o v a) : YieldsIf P ops S' o v a :=
  hy.imp (fun ⟨hw, hv⟩ => ⟨hw, fun w hs => hv w (h w hs)⟩) id

theorem yields_all {i : Nat} {oi : Oper} {v : Value} {a : Act} {S : World → Prop} {w : World} (hi : ops[i]? = some oi) (h : insensAt ops i = true) (hS : S w) (hy : YieldsIf P ops S oi v a) : YieldsIf P ops (fun _ => True) oi v a := by
  have h9 : insens oi.op = true := by unfold insensAt at h; rw [hi] at h; exact h
  exact hy.imp (fun ⟨hw, hv⟩ => ⟨hw, fun w' _ => insens_run h9 (hv w hS) w'⟩) id
theorem wpAnyF_first (hrel : RelW R) {i : Nat} {oi : Oper} {v : Value} (hi : ops[i]? = some oi) (hsel : ∀ (j : Nat) (o : Oper) cs b, ops[j]? = some o → o.op ≠ .select cs b)
    (hQ : ∀ c a w, Q (.panic c) (a.put oi.dst v) w → Q (.panic c) a w) :
    ∀ (fuel : Nat) (listed : Array Bool) (a : Act) (w : World), Closed ops listed →
      (∀ j oj, ops[j]? = some oj → j ≠ i → listed.getD j true = false → (∀ e ∈ oj.after, Region.binds .any e = true → e.on ≠ i) → oi.apart ops oj = true) →
      i ∈ Region.ready .any ops listed → YieldsIf P ops (R w) oi v a → (insensAt ops i = true → YieldsIf P ops (fun _ => True) oi v a) →
      wpAnyF R P ops Q fuel (listed.setIfInBounds i true) (a.put oi.dst v) w → wpAnyF R P ops Q (fuel + 1) listed a w := by
  intro fuel
  induction fuel with
  | zero =>
    intro listed a w _ _ hr hy _ H
    refine ⟨fun h => (by rw [h] at hr; cases hr), fun j hj => ?_⟩
    by_cases hji : j = i
    · subst hji; exact hy.wpOp hi (hrel.refl w) ⟨.inr (hrel.refl w), H⟩
    · have := ready_mono hj hji
      rw [H.1] at this
      cases this
  | succ fuel ih =>
    intro listed a w hcl hfree hr hy hins H
    refine ⟨fun h => (by rw [h] at hr; cases hr), fun j hj => ?_⟩
    by_cases hji : j = i
    · subst hji; exact hy.wpOp hi (hrel.refl w) ⟨.inr (hrel.refl w), H⟩
    · have h1 := H.2 j (ready_mono hj hji)
      have hnl := not_last_of_ready hcl hji hr hj
      obtain ⟨hjun, oj, hoj, hall⟩ := mem_ready.1 hj
      have hnot : ∀ e ∈ oj.after, Region.binds .any e = true → e.on ≠ i := fun e he hb heq => by
        have h1 := hall e he hb
        have h0 := (mem_ready.1 hr).1
        rw [heq] at h1
        rcases Nat.lt_or_ge i listed.size with h' | h'
        · simp [h'] at h0 h1; rw [h0] at h1; cases h1
        · simp [Array.getElem?_eq_none h'] at h1
      have h2 := wpOp_putIf hoj (hfree j oj hoj hji hjun hnot) (fun cs b => hsel i oi cs b hi) (fun cs b => hsel j oj cs b hoj) hQ hy h1
      have hfree' : ∀ k ok, ops[k]? = some ok → k ≠ i → (listed.setIfInBounds j true).getD k true = false →
          (∀ e ∈ ok.after, Region.binds .any e = true → e.on ≠ i) → oi.apart ops ok = true := fun k ok hk hki hun hno => by
        refine hfree k ok hk hki ?_ hno
        by_cases hjk : j = k
        · subst hjk; exact hjun
        · rw [getD_set_ne true hjk] at hun; exact hun
      refine wpOp_mono (fun a' w' h3 => ?_) h2
      obtain ⟨hy', hf, hK⟩ := h3
      refine ⟨hf, ?_⟩
      rcases hnl with hnl | hnl
      · have hf' : R w w' := hf.resolve_left (by rw [hnl]; decide)
        exact ih (listed.setIfInBounds j true) a' w' (hcl.set hj) hfree' (ready_mono hr (Ne.symm hji)) (yieldsIf_mono (fun x hx => hrel.trans hf' hx) hy') (fun hi9 => yields_all hi hi9 (hrel.refl w) hy') (by rw [Array.setIfInBounds_comm _ _ hji]; exact hK)
      · exact ih (listed.setIfInBounds j true) a' w' (hcl.set hj) hfree' (ready_mono hr (Ne.symm hji)) (yieldsIf_mono (fun _ _ => trivial) (yields_all hi hnl (hrel.refl w) hy')) (fun hi9 => yields_all hi hi9 (hrel.refl w) hy') (by rw [Array.setIfInBounds_comm _ _ hji]; exact hK)

/-! ### the canonical order -/

/-- what may be hoisted: it makes no memory and writes none (a promise that each step keeps or breaks by itself) -/
def lightOp : Op → Bool
  | .move _ | .assign _ | .pick .. | .load .. | .nilCheck _ | .binOp .. | .unOp .. | .convert .. | .slice .. | .fieldAddr .. | .field .. | .indexAddr .. | .index .. | .extract .. | .build .. | .makeInterface .. => true
  | .call { callee := .builtin b, .. } => match b with | .len | .cap | .min | .max => true | _ => false
  | _ => false

/-- an order: 'hoist': taken first; 'one': nothing else may come up; 'two': two may come up; 'many': any of these -/
inductive Sched where
  | done
  | hoist (i : Nat) (r : Sched)
  | one (i : Nat) (r : Sched)
  | two (i : Nat) (r : Sched) (j : Nat) (s : Sched)
  | many (l : List Nat) (f : Nat → Sched)

def canonGo (ops : Array Oper) : Nat → Array Bool → Option Sched
  | 0, listed => if (Region.ready .any ops listed).isEmpty then some .done else none
  | fuel + 1, listed =>
    let rs := Region.ready .any ops listed
    if rs.isEmpty then some .done else
    match rs.find? (fun i => ((ops[i]?).map (fun o => lightOp o.op)).getD false && Region.free .any ops listed i) with
    | some i => (canonGo ops fuel (listed.setIfInBounds i true)).map (.hoist i)
    | none => match rs with
      | [i] => (canonGo ops fuel (listed.setIfInBounds i true)).map (.one i)
      | [i, j] => match canonGo ops fuel (listed.setIfInBounds i true), canonGo ops fuel (listed.setIfInBounds j true) with
        | some r, some s => some (.two i r j s)
        | _, _ => none
      | _ => none
def canon (ops : Array Oper) : Option Sched := canonGo ops ops.size (Array.replicate ops.size false)

/-- the check of an order, with how many operations it still has -/
def orderOk (ops : Array Oper) : Nat → Sched → Array Bool → Bool
  | n, .done, listed => (n == 0) && (Region.ready .any ops listed).isEmpty
  | 0, _, _ => false
  | n + 1, .hoist i r, listed => (Region.ready .any ops listed).contains i && Region.free .any ops listed i && orderOk ops n r (listed.setIfInBounds i true)
  | n + 1, .one i r, listed => (Region.ready .any ops listed == [i]) && orderOk ops n r (listed.setIfInBounds i true)
  | n + 1, .two i r j s, listed => (Region.ready .any ops listed == [i, j]) && orderOk ops n r (listed.setIfInBounds i true) && orderOk ops n s (listed.setIfInBounds j true)
  | n + 1, .many l f, listed => (Region.ready .any ops listed == l) && !l.isEmpty && l.all (fun i => orderOk ops n (f i) (listed.setIfInBounds i true))

/-- the worlds behind b -/
def fut (b : World) (d : Nat) (os : Array Obj) : World := grow (redrawn b d) os
theorem fut_of {b w : World} (h : Fut b w) : ∃ d os, w = fut b d os := let ⟨p, h⟩ := regrown_of_below h; ⟨p.d, p.os, h⟩
theorem Fut.fut (b : World) (d : Nat) (os : Array Obj) : Fut b (fut b d os) := below_regrown b d os
theorem cell_fut {b : World} {a : Addr} {v : Value} (h : b.cell? a = some v) : ∀ d os, (fut b d os).cell? a = some v := fun d os => (Fut.fut b d os).cell h

theorem fut_fut (b : World) (d d' : Nat) (os os' : Array Obj) : fut (fut b d os) d' os' = fut b d' (os ++ os') := by
  simp [fut, grow, redrawn, Array.append_assoc]
theorem fut_drew (b : World) (d : Nat) (os : Array Obj) : (fut b d os).drew = fut b (d + 1) os := rfl

/-- one operation that is hoisted: one value in every world behind b -/
def Oper.lit (P : Program) (o : Oper) (a : Act) (b w : World) (K : Act → World → Prop) : Prop :=
  ∃ v, (∀ d os, (execOp a.eval o).run P (fut b d os) = .ok (.value v) (fut b d os)) ∧ K (a.put o.dst v) w

/-- the same, for the worlds that R leads to -/
def Oper.litR (R : World → World → Prop) (P : Program) (o : Oper) (a : Act) (b w : World) (K : Act → World → Prop) : Prop :=
  ∃ v, (∀ w', R b w' → (execOp a.eval o).run P w' = .ok (.value v) w') ∧ K (a.put o.dst v) w
theorem litR_of_lit {o : Oper} {a : Act} {b w : World} {K : Act → World → Prop} (h : Oper.lit P o a b w K) : Oper.litR Fut P o a b w K := by
  obtain ⟨v, h1, h2⟩ := h
  exact ⟨v, fun w' hf => by obtain ⟨d, os, rfl⟩ := fut_of hf; exact h1 d os, h2⟩

/-- an operation that is carried out where it stands -/
def heavyOp (R : World → World → Prop) (P : Program) (ops : Array Oper) (Q : Exit → Act → World → Prop) (i : Nat) (b : World) (K : World → Act → World → Prop) (a : Act) (w : World) : Prop :=
  match ops[i]? with
  | none => False
  | some o => if Region.wanted o (yielded ops a.tmps) then o.wp P a w (fun a' w' => ((isLast ops i = true ∨ R w w') ∧ K b a' w') ∨ (late ops i = true ∧ K w' a' w')) Q else K b (a.put o.dst undef) w
def hoistOp (R : World → World → Prop) (P : Program) (ops : Array Oper) (b : World) (i : Nat) (K : Act → World → Prop) (a : Act) (w : World) : Prop :=
  match ops[i]? with
  | none => False
  | some o => if Region.wanted o (yielded ops a.tmps) then Oper.litR R P o a b w K else K (a.put o.dst undef) w

/-- THE WALK, in the canonical order; b: a world that has been come by -/
def wpG (R : World → World → Prop) (P : Program) (ops : Array Oper) (Q : Exit → Act → World → Prop) : Sched → World → Act → World → Prop
  | .done, _, a, w => Q .normal a w
  | .hoist i r, b, a, w => ∃ b', (b' = b ∨ b' = w) ∧ hoistOp R P ops b' i (wpG R P ops Q r b') a w
  | .one i r, b, a, w => ∃ b', (b' = b ∨ b' = w) ∧ heavyOp R P ops Q i b' (fun b'' => wpG R P ops Q r b'') a w
  | .two i r j s, b, a, w => ∃ b', (b' = b ∨ b' = w) ∧ heavyOp R P ops Q i b' (fun b'' => wpG R P ops Q r b'') a w ∧ heavyOp R P ops Q j b' (fun b'' => wpG R P ops Q s b'') a w
  | .many l f, b, a, w => ∃ b', (b' = b ∨ b' = w) ∧ ∀ i ∈ l, heavyOp R P ops Q i b' (fun b'' => wpG R P ops Q (f i) b'') a w
/-- where memory only grows -/
def wpF (P : Program) (ops : Array Oper) (Q : Exit → Act → World → Prop) (l : Sched) (b : World) (a : Act) (w : World) : Prop := wpG Fut P ops Q l b a w

theorem wpG_nil {a : Act} {w : World} (h : Q .normal a w) : wpG R P ops Q .done b a w := h
theorem wpG_rebase {r : Sched} {a : Act} {w : World} (k : wpG R P ops Q r w a w) : wpG R P ops Q r b a w := by
  cases r with
  | done => exact k
  | hoist => obtain ⟨b', hb, hk⟩ := k; exact ⟨b', .inr (hb.elim id id), hk⟩
  | one => obtain ⟨b', hb, hk⟩ := k; exact ⟨b', .inr (hb.elim id id), hk⟩
  | two => obtain ⟨b', hb, hk⟩ := k; exact ⟨b', .inr (hb.elim id id), hk⟩
  | many => obtain ⟨b', hb, hk⟩ := k; exact ⟨b', .inr (hb.elim id id), hk⟩
theorem wpG_hoist {i : Nat} {o : Oper} {r : Sched} {a : Act} {w : World} (ho : ops[i]? = some o)
    (h : ∀ K : Act → World → Prop, (∀ a w, wpG R P ops Q r b a w → K a w) → if Region.wanted o (yielded ops a.tmps) then Oper.litR R P o a b w K else K (a.put o.dst undef) w) : wpG R P ops Q (.hoist i r) b a w := by
  refine ⟨b, .inl rfl, ?_⟩
  simp only [hoistOp, ho]
  exact h _ (fun _ _ h => h)
/-- the same, where the guard is decided -/
theorem wpG_h {i : Nat} {o : Oper} {r : Sched} {a : Act} {w : World} (ho : ops[i]? = some o) (hw : Region.wanted o (yielded ops a.tmps) = true)
    (h : ∀ K : Act → World → Prop, (∀ a w, wpG R P ops Q r b a w → K a w) → Oper.litR R P o a b w K) : wpG R P ops Q (.hoist i r) b a w :=
  wpG_hoist ho (fun K hK => by rw [if_pos hw]; exact h K hK)
theorem wpG_hs {i : Nat} {o : Oper} {r : Sched} {a : Act} {w : World} (ho : ops[i]? = some o) (hw : Region.wanted o (yielded ops a.tmps) = false)
    (h : ∀ K : Act → World → Prop, (∀ a w, wpG R P ops Q r b a w → K a w) → K (a.put o.dst undef) w) : wpG R P ops Q (.hoist i r) b a w :=
  wpG_hoist ho (fun K hK => by rw [if_neg (by rw [hw]; decide)]; exact h K hK)
theorem heavyG_of {i : Nat} {o : Oper} {r : Sched} {a : Act} {w : World} (ho : ops[i]? = some o)
    (h : ∀ K : Act → World → Prop, (∀ a w', (isLast ops i = true ∨ R w w') → wpG R P ops Q r b a w' → K a w') → if Region.wanted o (yielded ops a.tmps) then o.wp P a w K Q else K (a.put o.dst undef) w) : heavyOp R P ops Q i b (fun b'' => wpG R P ops Q r b'') a w := by
  have h1 := h (fun a' w' => ((isLast ops i = true ∨ R w w') ∧ wpG R P ops Q r b a' w') ∨ (late ops i = true ∧ wpG R P ops Q r w' a' w')) (fun _ _ h k => .inl ⟨h, k⟩)
  simp only [heavyOp, ho]
  split
  · rename_i hw; simpa only [hw, if_true] using h1
  · rename_i hw
    have h2 := h (fun a' w' => wpG R P ops Q r b a' w') (fun _ _ _ k => k)
    simpa only [hw, if_false, Bool.false_eq_true] using h2
/-- an operation with which every other one is compared may write what was there: the walk goes on from the world that it leaves -/
theorem wpG_ol {i : Nat} {o : Oper} {r : Sched} {a : Act} {w : World} (ho : ops[i]? = some o) (hl : late ops i = true) (hw : Region.wanted o (yielded ops a.tmps) = true)
    (h : ∀ K : Act → World → Prop, (∀ a w', wpG R P ops Q r w' a w' → K a w') → o.wp P a w K Q) : wpG R P ops Q (.one i r) b a w := by
  have h1 := h (fun a' w' => ((isLast ops i = true ∨ R w w') ∧ wpG R P ops Q r b a' w') ∨ (late ops i = true ∧ wpG R P ops Q r w' a' w')) (fun _ _ k => .inr ⟨hl, k⟩)
  refine ⟨b, .inl rfl, ?_⟩
  simp only [heavyOp, ho]
  simpa only [hw, if_true] using h1
theorem wpG_heavy {i : Nat} {o : Oper} {r : Sched} {a : Act} {w : World} (ho : ops[i]? = some o)
    (h : ∀ K : Act → World → Prop, (∀ a w', (isLast ops i = true ∨ R w w') → wpG R P ops Q r b a w' → K a w') → if Region.wanted o (yielded ops a.tmps) then o.wp P a w K Q else K (a.put o.dst undef) w) : wpG R P ops Q (.one i r) b a w :=
  ⟨b, .inl rfl, heavyG_of ho h⟩
theorem wpG_o {i : Nat} {o : Oper} {r : Sched} {a : Act} {w : World} (ho : ops[i]? = some o) (hw : Region.wanted o (yielded ops a.tmps) = true)
    (h : ∀ K : Act → World → Prop, (∀ a w', (isLast ops i = true ∨ R w w') → wpG R P ops Q r b a w' → K a w') → o.wp P a w K Q) : wpG R P ops Q (.one i r) b a w :=
  wpG_heavy ho (fun K hK => by rw [if_pos hw]; exact h K hK)
theorem wpG_os (hrel : RelW R) {i : Nat} {o : Oper} {r : Sched} {a : Act} {w : World} (ho : ops[i]? = some o) (hw : Region.wanted o (yielded ops a.tmps) = false)
    (h : ∀ K : Act → World → Prop, (∀ a w, wpG R P ops Q r b a w → K a w) → K (a.put o.dst undef) w) : wpG R P ops Q (.one i r) b a w :=
  wpG_heavy ho (fun K hK => by rw [if_neg (by rw [hw]; decide)]; exact hK _ _ (.inr (hrel.refl w)) (h _ (fun _ _ h => h)))

theorem wpF_nil {a : Act} {w : World} (h : Q .normal a w) : wpF P ops Q .done b a w := h
theorem wpF_rebase {r : Sched} {a : Act} {w : World} (k : wpF P ops Q r w a w) : wpF P ops Q r b a w := wpG_rebase k
theorem wpF_hoist {i : Nat} {o : Oper} {r : Sched} {a : Act} {w : World} (ho : ops[i]? = some o)
    (h : ∀ K : Act → World → Prop, (∀ a w, wpF P ops Q r b a w → K a w) → if Region.wanted o (yielded ops a.tmps) then Oper.lit P o a b w K else K (a.put o.dst undef) w) : wpF P ops Q (.hoist i r) b a w :=
  wpG_hoist ho (fun K hK => by
    have := h K hK
    split
    · rename_i hw; rw [if_pos hw] at this; exact litR_of_lit this
    · rename_i hw; rw [if_neg hw] at this; exact this)
theorem wpF_h {i : Nat} {o : Oper} {r : Sched} {a : Act} {w : World} (ho : ops[i]? = some o) (hw : Region.wanted o (yielded ops a.tmps) = true)
    (h : ∀ K : Act → World → Prop, (∀ a w, wpF P ops Q r b a w → K a w) → Oper.lit P o a b w K) : wpF P ops Q (.hoist i r) b a w :=
  wpF_hoist ho (fun K hK => by rw [if_pos hw]; exact h K hK)
theorem wpF_hs {i : Nat} {o : Oper} {r : Sched} {a : Act} {w : World} (ho : ops[i]? = some o) (hw : Region.wanted o (yielded ops a.tmps) = false)
    (h : wpF P ops Q r b (a.put o.dst undef) w) : wpF P ops Q (.hoist i r) b a w :=
  wpF_hoist ho (fun K hK => by rw [if_neg (by rw [hw]; decide)]; exact hK _ _ h)
theorem wpF_hs2 {i : Nat} {o : Oper} {r : Sched} {a : Act} {w : World} (ho : ops[i]? = some o) (hw : Region.wanted o (yielded ops a.tmps) = false)
    (h : ∀ K : Act → World → Prop, (∀ a w, wpF P ops Q r b a w → K a w) → K (a.put o.dst undef) w) : wpF P ops Q (.hoist i r) b a w :=
  wpF_hs ho hw (h _ (fun _ _ h => h))
theorem wpF_o {i : Nat} {o : Oper} {r : Sched} {a : Act} {w : World} (ho : ops[i]? = some o) (hw : Region.wanted o (yielded ops a.tmps) = true)
    (h : ∀ K : Act → World → Prop, (∀ a w', (isLast ops i = true ∨ Fut w w') → wpF P ops Q r b a w' → K a w') → o.wp P a w K Q) : wpF P ops Q (.one i r) b a w := wpG_o ho hw h
theorem wpF_ol {i : Nat} {o : Oper} {r : Sched} {a : Act} {w : World} (ho : ops[i]? = some o) (hl : late ops i = true) (hw : Region.wanted o (yielded ops a.tmps) = true)
    (h : ∀ K : Act → World → Prop, (∀ a w', wpF P ops Q r w' a w' → K a w') → o.wp P a w K Q) : wpF P ops Q (.one i r) b a w := wpG_ol ho hl hw h
theorem wpF_os {i : Nat} {o : Oper} {r : Sched} {a : Act} {w : World} (ho : ops[i]? = some o) (hw : Region.wanted o (yielded ops a.tmps) = false)
    (h : wpF P ops Q r b (a.put o.dst undef) w) : wpF P ops Q (.one i r) b a w := wpG_os relFut ho hw (fun _ hK => hK _ _ h)
theorem wpF_os2 {i : Nat} {o : Oper} {r : Sched} {a : Act} {w : World} (ho : ops[i]? = some o) (hw : Region.wanted o (yielded ops a.tmps) = false)
    (h : ∀ K : Act → World → Prop, (∀ a w, wpF P ops Q r b a w → K a w) → K (a.put o.dst undef) w) : wpF P ops Q (.one i r) b a w :=
  wpF_os ho hw (h _ (fun _ _ h => h))
theorem wpF_two {i j : Nat} {o p : Oper} {r s : Sched} {a : Act} {w : World} (ho : ops[i]? = some o) (hp : ops[j]? = some p)
    (h : ∀ K : Act → World → Prop, (∀ a w', (isLast ops i = true ∨ Fut w w') → wpF P ops Q r b a w' → K a w') → if Region.wanted o (yielded ops a.tmps) then o.wp P a w K Q else K (a.put o.dst undef) w)
    (k : ∀ K : Act → World → Prop, (∀ a w', (isLast ops j = true ∨ Fut w w') → wpF P ops Q s b a w' → K a w') → if Region.wanted p (yielded ops a.tmps) then p.wp P a w K Q else K (a.put p.dst undef) w) : wpF P ops Q (.two i r j s) b a w :=
  ⟨b, .inl rfl, heavyG_of ho h, heavyG_of hp k⟩

/-- any of some operations comes next -/
theorem wpG_many {l : List Nat} {f : Nat → Sched} {a : Act} {w : World}
    (h : ∀ i ∈ l, ∃ o r, ops[i]? = some o ∧ f i = r ∧ ∀ K : Act → World → Prop, (∀ a w', (isLast ops i = true ∨ R w w') → wpG R P ops Q r b a w' → K a w') → if Region.wanted o (yielded ops a.tmps) then o.wp P a w K Q else K (a.put o.dst undef) w) : wpG R P ops Q (.many l f) b a w :=
  ⟨b, .inl rfl, fun i hi => by
    obtain ⟨o, r, ho, rfl, hk⟩ := h i hi
    exact heavyG_of ho hk⟩
/-- two operations in either order -/
theorem wpG_two' {i j : Nat} {o p : Oper} {r s : Sched} {a : Act} {w : World} (ho : ops[i]? = some o) (hp : ops[j]? = some p)
    (h : ∀ K : Act → World → Prop, (∀ a w', (isLast ops i = true ∨ R w w') → wpG R P ops Q r b a w' → K a w') → if Region.wanted o (yielded ops a.tmps) then o.wp P a w K Q else K (a.put o.dst undef) w)
    (k : ∀ K : Act → World → Prop, (∀ a w', (isLast ops j = true ∨ R w w') → wpG R P ops Q s b a w' → K a w') → if Region.wanted p (yielded ops a.tmps) then p.wp P a w K Q else K (a.put p.dst undef) w) : wpG R P ops Q (.two i r j s) b a w :=
  ⟨b, .inl rfl, heavyG_of ho h, heavyG_of hp k⟩
theorem ready_nil_of_last {i : Nat} {listed : Array Bool} (hl : isLast ops i = true) (hi : i ∈ Region.ready .any ops listed) : Region.ready .any ops (listed.setIfInBounds i true) = [] := by
  cases hr : Region.ready .any ops (listed.setIfInBounds i true) with
  | nil => rfl
  | cons k ks =>
    exfalso
    have hk : k ∈ Region.ready .any ops (listed.setIfInBounds i true) := by rw [hr]; exact List.mem_cons_self
    obtain ⟨h0, ok, hok, _⟩ := mem_ready.1 hk
    obtain ⟨hi0, oi, hoi, hall⟩ := mem_ready.1 hi
    have hlt : k < ops.size := (Array.getElem?_eq_some_iff.1 hok).1
    have hsz : i < listed.size := by
      rcases Nat.lt_or_ge i listed.size with h' | h'
      · exact h'
      · simp [Array.getElem?_eq_none h'] at hi0
    have hki : k ≠ i := by
      rintro rfl
      simp [hsz] at h0
    have h1 := List.all_eq_true.1 hl k (List.mem_range.2 hlt)
    simp only [hoi, Option.map_some, Option.getD_some, Bool.or_eq_true, beq_iff_eq] at h1
    rcases h1 with h1 | h1
    · exact hki h1
    · obtain ⟨e, he, hb⟩ := Array.any_eq_true'.1 h1
      simp only [Bool.and_eq_true, beq_iff_eq] at hb
      have h2 := hall e he hb.1
      rw [hb.2] at h2
      rw [getD_set_ne true (Ne.symm hki)] at h0
      rcases Nat.lt_or_ge k listed.size with h' | h'
      · simp [h'] at h0 h2; rw [h0] at h2; cases h2
      · simp [Array.getElem?_eq_none h'] at h2

theorem heavy_any (hrel : RelW R) {n : Nat} {i : Nat} {r : Sched} {listed : Array Bool} {a : Act} {w b : World} (hb : R b w)
    (ih : ∀ b' a' w', R b' w' → wpG R P ops Q r b' a' w' → wpAnyF R P ops Q n (listed.setIfInBounds i true) a' w') (hm : i ∈ Region.ready .any ops listed) (ho : orderOk ops n r (listed.setIfInBounds i true) = true)
    (h : heavyOp R P ops Q i b (fun b'' => wpG R P ops Q r b'') a w) : wpOp P ops Q i (fun a' w' => (late ops i = true ∨ R w w') ∧ wpAnyF R P ops Q n (listed.setIfInBounds i true) a' w') a w := by
  unfold heavyOp at h
  unfold wpOp
  cases hoi : ops[i]? with
  | none => simp [hoi] at h
  | some oi =>
    simp only [hoi] at h ⊢
    by_cases hw : Region.wanted oi (yielded ops a.tmps) = true
    · simp only [hw, if_true] at h ⊢
      refine .inl (Oper.wp_mono (fun a' w' h' => ?_) h)
      rcases h' with h' | ⟨hl, h'⟩
      · by_cases hl : isLast ops i = true
        · have hnil := ready_nil_of_last hl hm
          refine ⟨.inl (late_of_last hl), ?_⟩
          cases r with
          | done =>
            cases n with
            | zero => exact ⟨hnil, h'.2⟩
            | succ n => simp [orderOk] at ho
          | hoist k r => cases n <;> simp [orderOk, hnil] at ho
          | one k r => cases n <;> simp [orderOk, hnil] at ho
          | two k r l s => cases n <;> simp [orderOk, hnil] at ho
          | many l f =>
            cases n with
            | zero => simp [orderOk] at ho
            | succ n =>
              simp only [orderOk, hnil, Bool.and_eq_true, beq_iff_eq] at ho
              rw [← ho.1.1] at ho
              simp at ho
        · have hf := h'.1.resolve_left hl
          exact ⟨.inr hf, ih _ _ _ (hrel.trans hb hf) h'.2⟩
      · exact ⟨.inl hl, ih _ _ _ (hrel.refl _) h'⟩
    · simp only [hw, Bool.false_eq_true, if_false] at h ⊢
      exact ⟨.inr (hrel.refl w), ih _ _ _ hb h⟩

theorem wpAnyF_of_wpF (hrel : RelW R) (hs : Region.noSelect ops = true) (hQ : ∀ c a d v w, Q (.panic c) (a.put d v) w → Q (.panic c) a w) : ∀ (n : Nat) (l : Sched) (b : World) (listed : Array Bool) (a : Act) (w : World),
    Closed ops listed → orderOk ops n l listed = true → R b w → wpG R P ops Q l b a w → wpAnyF R P ops Q n listed a w
  | 0, .done, b, listed, a, w, _, ho, _, h => ⟨by simpa [orderOk] using ho, h⟩
  | _ + 1, .done, _, _, _, _, _, ho, _, _ => by simp [orderOk] at ho
  | 0, .hoist _ _, _, _, _, _, _, ho, _, _ => by simp [orderOk] at ho
  | 0, .one _ _, _, _, _, _, _, ho, _, _ => by simp [orderOk] at ho
  | 0, .two _ _ _ _, _, _, _, _, _, ho, _, _ => by simp [orderOk] at ho
  | 0, .many _ _, _, _, _, _, _, ho, _, _ => by simp [orderOk] at ho
  | n + 1, .hoist i r, b, listed, a, w, hcl, ho, hb0, h0 => by
    obtain ⟨b', hb', h⟩ := h0
    have hb : R b' w := by
      rcases hb' with rfl | rfl
      · exact hb0
      · exact hrel.refl _
    clear hb0
    simp only [orderOk, Bool.and_eq_true] at ho
    obtain ⟨⟨hrd, hfr⟩, hrest⟩ := ho
    have hmem : i ∈ Region.ready .any ops listed := by simpa using hrd
    unfold hoistOp at h
    cases hoi : ops[i]? with
    | none => simp [hoi] at h
    | some oi =>
      simp only [hoi] at h
      by_cases hw : Region.wanted oi (yielded ops a.tmps) = true
      · simp only [hw, if_true] at h
        obtain ⟨v, h2, h3⟩ := h
        have hyy : YieldsIf P ops (R w) oi v a := .inl ⟨hw, fun w' hf => h2 w' (hrel.trans hb hf)⟩
        exact wpAnyF_first hrel hoi (Region.noSelect_spec hs) (fun c a w => hQ c a oi.dst v w) n listed a w hcl (Region.free_spec hoi hfr) hmem hyy (fun h9 => yields_all hoi h9 (hrel.refl w) hyy)
          (wpAnyF_of_wpF hrel hs hQ n r b' _ _ _ (hcl.set hmem) hrest hb h3)
      · simp only [hw, Bool.false_eq_true, if_false] at h
        exact wpAnyF_first hrel hoi (Region.noSelect_spec hs) (fun c a w => hQ c a oi.dst undef w) n listed a w hcl (Region.free_spec hoi hfr) hmem (.inr ⟨by simpa using hw, rfl⟩) (fun _ => .inr ⟨by simpa using hw, rfl⟩)
          (wpAnyF_of_wpF hrel hs hQ n r b' _ _ _ (hcl.set hmem) hrest hb h)
  | n + 1, .one i r, b, listed, a, w, hcl, ho, hb0, h0 => by
    obtain ⟨b', hb', h⟩ := h0
    have hb : R b' w := by
      rcases hb' with rfl | rfl
      · exact hb0
      · exact hrel.refl _
    simp only [orderOk, Bool.and_eq_true, beq_iff_eq] at ho
    obtain ⟨hrd, hrest⟩ := ho
    simp only [wpAnyF]
    refine ⟨fun h0 => (by rw [h0] at hrd; cases hrd), fun j hj => ?_⟩
    rw [hrd] at hj
    obtain rfl : j = i := by simpa using hj
    exact heavy_any hrel hb (fun b'' a' w' hf hk => wpAnyF_of_wpF hrel hs hQ n r b'' _ a' w' (hcl.set (by rw [hrd]; simp)) hrest hf hk) (by rw [hrd]; exact List.mem_cons_self) hrest h
  | n + 1, .two i r k s, b, listed, a, w, hcl, ho, hb0, h0 => by
    obtain ⟨b', hb', h, h'⟩ := h0
    have hb : R b' w := by
      rcases hb' with rfl | rfl
      · exact hb0
      · exact hrel.refl _
    simp only [orderOk, Bool.and_eq_true, beq_iff_eq] at ho
    obtain ⟨⟨hrd, hrest⟩, hrest'⟩ := ho
    simp only [wpAnyF]
    refine ⟨fun h0 => (by rw [h0] at hrd; cases hrd), fun j hj => ?_⟩
    rw [hrd] at hj
    have hj' : j = i ∨ j = k := by simpa using hj
    rcases hj' with rfl | rfl
    · exact heavy_any hrel hb (fun b'' a' w' hf hk => wpAnyF_of_wpF hrel hs hQ n r b'' _ a' w' (hcl.set (by rw [hrd]; simp)) hrest hf hk) (by rw [hrd]; exact List.mem_cons_self) hrest h
    · exact heavy_any hrel hb (fun b'' a' w' hf hk => wpAnyF_of_wpF hrel hs hQ n s b'' _ a' w' (hcl.set (by rw [hrd]; simp)) hrest' hf hk) (by rw [hrd]; simp) hrest' h'
  | n + 1, .many l f, b, listed, a, w, hcl, ho, hb0, h0 => by
    obtain ⟨b', hb', h⟩ := h0
    have hb : R b' w := by
      rcases hb' with rfl | rfl
      · exact hb0
      · exact hrel.refl _
    simp only [orderOk, Bool.and_eq_true, beq_iff_eq, List.all_eq_true] at ho
    obtain ⟨⟨hrd, hne⟩, hrest⟩ := ho
    simp only [wpAnyF]
    refine ⟨fun h0 => (by rw [h0] at hrd; rw [← hrd] at hne; simp at hne), fun j hj => ?_⟩
    have hjl : j ∈ l := by rwa [hrd] at hj
    exact heavy_any hrel hb (fun b'' a' w' hf hk => wpAnyF_of_wpF hrel hs hQ n (f j) b'' _ a' w' (hcl.set hj) (hrest j hjl) hf hk) hj (hrest j hjl) (h j hjl)

/-- all that is asked of a region that draws and of an order, in one closed fact -/
def canonB (ops : Array Oper) (l : Sched) : Bool :=
  Region.noSelect ops && orderOk ops ops.size l (Array.replicate ops.size false)

theorem wp_region_G (hrel : RelW R) {id : Nat} {os : List Oper} (l : Sched) {a : Act} {w : World} (hm : P.follows .mixedOrders = true)
    (hB : canonB os.toArray l = true) (hQ : ∀ c a d v w, Q (.panic c) (a.put d v) w → Q (.panic c) a w)
    (h : wpG R P os.toArray Q l w a w.drew) : (Code.region id os.toArray true).wp P Q a w := by
  simp only [canonB, Bool.and_eq_true] at hB
  exact wp_region_any hm (wpAny_of_F _ _ _ _ (wpAnyF_of_wpF hrel hB.1 hQ _ l w (Array.replicate os.toArray.size false) a w.drew (closed_start _) hB.2 (hrel.of_fut (Fut.refl w).drew) h))
/-- A REGION THAT DRAWS ITS ORDER, walked once, in the order l. -/
theorem wp_region_F {id : Nat} {os : List Oper} (l : Sched) {a : Act} {w : World} (hm : P.follows .mixedOrders = true)
    (hB : canonB os.toArray l = true) (hQ : ∀ c a d v w, Q (.panic c) (a.put d v) w → Q (.panic c) a w)
    (h : wpF P os.toArray Q l w a w.drew) : (Code.region id os.toArray true).wp P Q a w := wp_region_G relFut l hm hB hQ h

end

/-! ### regions that write rows of their own -/
/-- w' is w with new blocks, and with others at the numbers that S names -/
structure FutS (S : Nat → Bool) (w w' : World) : Prop where
  os : w'.os = w.os
  tape : w'.tape = w.tape
  output : w'.output = w.output
  size : w.heap.size ≤ w'.heap.size
  block : ∀ k, k < w.heap.size → S k = false → w'.heap[k]? = w.heap[k]?
theorem relS (S : Nat → Bool) : RelW (FutS S) :=
  ⟨fun _ => ⟨rfl, rfl, rfl, Nat.le_refl _, fun _ _ _ => rfl⟩,
   fun h k => ⟨k.os.trans h.os, k.tape.trans h.tape, k.output.trans h.output, Nat.le_trans h.size k.size, fun i hi hs => (k.block i (Nat.lt_of_lt_of_le hi h.size) hs).trans (h.block i hi hs)⟩,
   fun h => ⟨h.os, h.tape, h.output, h.size, fun k hk _ => h.block k hk⟩⟩
def mods (b : World) (S : Nat → Bool) (f : Nat → Obj) : World := { b with heap := b.heap.mapIdx fun k o => if S k then f k else o }
def futS (b : World) (S : Nat → Bool) (f : Nat → Obj) (d : Nat) (os : Array Obj) : World := fut (mods b S f) d os
theorem futS_of {S : Nat → Bool} {b w : World} (h : FutS S b w) : ∃ f d os, w = futS b S f d os := by
  refine ⟨fun k => (w.heap[k]?).getD default, ?_⟩
  refine fut_of ⟨h.os, h.tape, h.output, by simpa [mods] using h.size, fun k hk => ?_⟩
  have hk' : k < b.heap.size := by simpa [mods] using hk
  have hkw : k < w.heap.size := Nat.lt_of_lt_of_le hk' h.size
  simp only [mods, Array.getElem?_mapIdx, Array.getElem?_eq_getElem hk', Option.map_some]
  cases hS : S k with
  | true => simp [Array.getElem?_eq_getElem hkw]
  | false =>
    have := h.block k hk' hS
    rw [Array.getElem?_eq_getElem hk'] at this
    simpa using this
theorem cell_futS {S : Nat → Bool} {b : World} {a : Addr} {v : Value} (h : b.cell? a = some v) (hS : S a.block = false) : ∀ f d os, (futS b S f d os).cell? a = some v := fun f d os => by
  have hlt := World.block_lt_of_cell? b a h
  refine (Fut.fut (mods b S f) d os).cell ?_
  rw [← h]
  refine World.cell?_of_block ?_
  simp [mods, Array.getElem?_mapIdx, Array.getElem?_eq_getElem hlt, hS]
def Oper.litS (S : Nat → Bool) (P : Program) (o : Oper) (a : Act) (b w : World) (K : Act → World → Prop) : Prop :=
  ∃ v, (∀ f d os, (execOp a.eval o).run P (futS b S f d os) = .ok (.value v) (futS b S f d os)) ∧ K (a.put o.dst v) w
section
variable {P : Program} {ops : Array Oper} {Q : Exit → Act → World → Prop} {b : World} {S : Nat → Bool}
theorem wpS_h {i : Nat} {o : Oper} {r : Sched} {a : Act} {w : World} (ho : ops[i]? = some o) (hw : Region.wanted o (yielded ops a.tmps) = true)
    (h : ∀ K : Act → World → Prop, (∀ a w, wpG (FutS S) P ops Q r b a w → K a w) → Oper.litS S P o a b w K) : wpG (FutS S) P ops Q (.hoist i r) b a w :=
  wpG_h ho hw (fun K hK => by
    obtain ⟨v, h1, h2⟩ := h K hK
    exact ⟨v, fun w' hf => by obtain ⟨f, d, os, rfl⟩ := futS_of hf; exact h1 f d os, h2⟩)
end
end Go.Proofs.YtlgpacpebjechaaGreatDoor
