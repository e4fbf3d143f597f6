/-
  Texts joined: Regions that draw their order, once more: what is hoisted is told either 'pure' (one value in every world) or stable under a relation that the heavy operations keep; a heavy operation that all the others but pure ones wait for, or that waits for them, need not keep it; An evaluator for closed calls: abstract values (with block numbers of its own), an abstract memory, code as combinators. What it does not know it answers with 'no'; The evaluator's data: slots, cells and blocks as finite maps; what a list laid in cells reads as.
-/
import Derived.Test.YtlgpacpebjechaaGreatDoorFast
import Derived.Test.YtlgpacpebjechaaGreatDoorProg
/-
  Regions that draw their order, once more: what is hoisted is told either 'pure' (one value in every world) or stable under a relation that the heavy operations keep; a heavy operation that all the others but pure ones wait for, or that waits for them, need not keep it.
-/
namespace Go.Proofs.YtlgpacpebjechaaGreatDoor
open Go.RowKit Go.Sort
def lateP (ops : Array Oper) (pu : Nat → Bool) (i : Nat) : Bool := (List.range ops.size).all fun k => k == i || dep3 ops i k || dep3 ops k i || pu k
section
variable {P : Program} {ops : Array Oper} {Q : Exit → Act → World → Prop} {R : World → World → Prop} {pu : Nat → Bool}
def wpAnyP (R : World → World → Prop) (pu : Nat → Bool) (P : Program) (ops : Array Oper) (Q : Exit → Act → World → Prop) : Nat → Array Bool → Act → World → Prop
  | 0, listed, a, w => Region.ready .any ops listed = [] ∧ Q .normal a w
  | fuel + 1, listed, a, w =>
    (Region.ready .any ops listed = [] → Q .normal a w) ∧
    ∀ i ∈ Region.ready .any ops listed, wpOp P ops Q i (fun a' w' => (lateP ops pu i = true ∨ R w w') ∧ wpAnyP R pu P ops Q fuel (listed.setIfInBounds i true) a' w') a w
theorem wpAny_of_P : ∀ (fuel : Nat) (listed : Array Bool) (a : Act) (w : World), wpAnyP R pu P ops Q fuel listed a w → wpAny P .any ops Q fuel listed a w
  | 0, _, _, _, h => h
  | fuel + 1, _, _, _, h => ⟨h.1, fun i hi => wpOp_mono (fun a' w' h' => wpAny_of_P fuel _ a' w' h'.2) (h.2 i hi)⟩
theorem not_late_of_ready {i j : Nat} {listed : Array Bool} (hc : Closed ops listed) (hne : j ≠ i) (hi : i ∈ Region.ready .any ops listed) (hj : j ∈ Region.ready .any ops listed) (hp : pu i = false) : lateP ops pu j = false := by
  have key : ∀ {i : Nat}, i ∈ Region.ready .any ops listed → listed.getD i true = true → False := by
    intro i hi h
    have h0 := (mem_ready.1 hi).1
    rw [h0] at h; cases h
  cases hl : lateP ops pu j with
  | false => rfl
  | true =>
    obtain ⟨_, oi, hoi, _⟩ := mem_ready.1 hi
    have hlt : i < ops.size := (Array.getElem?_eq_some_iff.1 hoi).1
    have h1 := List.all_eq_true.1 hl i (List.mem_range.2 hlt)
    simp only [Bool.or_eq_true, beq_iff_eq] at h1
    rcases h1 with ((h1 | h1) | h1) | h1
    · exact absurd h1.symm hne
    · exact (key hi (dep3_of_ready hc hj h1)).elim
    · exact (key hj (dep3_of_ready hc hi h1)).elim
    · rw [hp] at h1; cases h1
/-- the value of a hoisted operation holds in the worlds that S names -/
theorem wpAnyP_first (hrel : RelW R) {i : Nat} {oi : Oper} {v : Value} (hi : ops[i]? = some oi) (hsel : ∀ (j : Nat) (o : Oper) cs b, ops[j]? = some o → o.op ≠ .select cs b)
    (hQ : ∀ c a w, Q (.panic c) (a.put oi.dst v) w → Q (.panic c) a w) :
    ∀ (fuel : Nat) (listed : Array Bool) (a : Act) (w : World), Closed ops listed →
      (∀ j oj, ops[j]? = some oj → j ≠ i → listed.getD j true = false → (∀ e ∈ oj.after, Region.binds .any e = true → e.on ≠ i) → oi.apart ops oj = true) →
      i ∈ Region.ready .any ops listed → (pu i = true ∧ YieldsIf P ops (fun _ => True) oi v a ∨ pu i = false ∧ YieldsIf P ops (R w) oi v a) →
      wpAnyP R pu P ops Q fuel (listed.setIfInBounds i true) (a.put oi.dst v) w → wpAnyP R pu P ops Q (fuel + 1) listed a w := by
  intro fuel
  induction fuel with
  | zero =>
    intro listed a w _ _ hr hy H
    refine ⟨fun h => (by rw [h] at hr; cases hr), fun j hj => ?_⟩
    by_cases hji : j = i
    · subst hji
      rcases hy with ⟨_, hy⟩ | ⟨_, hy⟩
      · exact hy.wpOp hi trivial ⟨.inr (hrel.refl w), H⟩
      · exact hy.wpOp hi (hrel.refl w) ⟨.inr (hrel.refl w), H⟩
    · have := ready_mono hj hji
      rw [H.1] at this
      cases this
  | succ fuel ih =>
    intro listed a w hcl hfree hr hy H
    refine ⟨fun h => (by rw [h] at hr; cases hr), fun j hj => ?_⟩
    by_cases hji : j = i
    · subst hji
      rcases hy with ⟨_, hy⟩ | ⟨_, hy⟩
      · exact hy.wpOp hi trivial ⟨.inr (hrel.refl w), H⟩
      · exact hy.wpOp hi (hrel.refl w) ⟨.inr (hrel.refl w), H⟩
    · have h1 := H.2 j (ready_mono hj hji)
      obtain ⟨hjun, oj, hoj, hall⟩ := mem_ready.1 hj
      have hnot : ∀ e ∈ oj.after, Region.binds .any e = true → e.on ≠ i := fun e he hb heq => by
        have h1 := hall e he hb
        have h0 := (mem_ready.1 hr).1
        rw [heq] at h1
        rcases Nat.lt_or_ge i listed.size with h' | h'
        · simp [h'] at h0 h1; rw [h0] at h1; cases h1
        · simp [Array.getElem?_eq_none h'] at h1
      have hfree' : ∀ k ok, ops[k]? = some ok → k ≠ i → (listed.setIfInBounds j true).getD k true = false →
          (∀ e ∈ ok.after, Region.binds .any e = true → e.on ≠ i) → oi.apart ops ok = true := fun k ok hk hki hun hno => by
        refine hfree k ok hk hki ?_ hno
        by_cases hjk : j = k
        · subst hjk; exact hjun
        · rw [getD_set_ne true hjk] at hun; exact hun
      rcases hy with ⟨hp, hy⟩ | ⟨hp, hy⟩
      · have h2 := wpOp_putIf hoj (hfree j oj hoj hji hjun hnot) (fun cs b => hsel i oi cs b hi) (fun cs b => hsel j oj cs b hoj) hQ hy h1
        refine wpOp_mono (fun a' w' h3 => ?_) h2
        obtain ⟨hy', hf, hK⟩ := h3
        exact ⟨hf, ih (listed.setIfInBounds j true) a' w' (hcl.set hj) hfree' (ready_mono hr (Ne.symm hji)) (.inl ⟨hp, hy'⟩) (by rw [Array.setIfInBounds_comm _ _ hji]; exact hK)⟩
      · have hnl := not_late_of_ready hcl hji hr hj hp
        have h2 := wpOp_putIf hoj (hfree j oj hoj hji hjun hnot) (fun cs b => hsel i oi cs b hi) (fun cs b => hsel j oj cs b hoj) hQ hy h1
        refine wpOp_mono (fun a' w' h3 => ?_) h2
        obtain ⟨hy', hf, hK⟩ := h3
        have hf' : R w w' := hf.resolve_left (by rw [hnl]; decide)
        exact ⟨hf, ih (listed.setIfInBounds j true) a' w' (hcl.set hj) hfree' (ready_mono hr (Ne.symm hji)) (.inr ⟨hp, yieldsIf_mono (fun x hx => hrel.trans hf' hx) hy'⟩) (by rw [Array.setIfInBounds_comm _ _ hji]; exact hK)⟩

def heavyT (R : World → World → Prop) (pu : Nat → Bool) (P : Program) (ops : Array Oper) (Q : Exit → Act → World → Prop) (i : Nat) (K : Act → World → Prop) (a : Act) (w : World) : Prop :=
  ∃ o, ops[i]? = some o ∧ (Region.wanted o (yielded ops a.tmps) = true ∧ o.wp P a w (fun a' w' => (lateP ops pu i = true ∨ R w w') ∧ K a' w') Q ∨ Region.wanted o (yielded ops a.tmps) = false ∧ K (a.put o.dst undef) w)
def hoistT (R : World → World → Prop) (pu : Nat → Bool) (P : Program) (ops : Array Oper) (i : Nat) (K : Act → World → Prop) (a : Act) (w : World) : Prop :=
  ∃ o, ops[i]? = some o ∧ (Region.wanted o (yielded ops a.tmps) = true ∧ (∃ v, (pu i = true ∧ (∀ w', (execOp a.eval o).run P w' = .ok (.value v) w') ∨ pu i = false ∧ ∀ w', R w w' → (execOp a.eval o).run P w' = .ok (.value v) w') ∧ K (a.put o.dst v) w) ∨ Region.wanted o (yielded ops a.tmps) = false ∧ K (a.put o.dst undef) w)
/-- the walk over an order -/
def wpT (R : World → World → Prop) (pu : Nat → Bool) (P : Program) (ops : Array Oper) (Q : Exit → Act → World → Prop) : Sched → Act → World → Prop
  | .done, a, w => Q .normal a w
  | .hoist i r, a, w => hoistT R pu P ops i (wpT R pu P ops Q r) a w
  | .one i r, a, w => heavyT R pu P ops Q i (wpT R pu P ops Q r) a w
  | .two i r j s, a, w => heavyT R pu P ops Q i (wpT R pu P ops Q r) a w ∧ heavyT R pu P ops Q j (wpT R pu P ops Q s) a w
  | .many _ _, _, _ => False
theorem heavyT_any (hrel : RelW R) {n : Nat} {i : Nat} {K : Act → World → Prop} {listed : Array Bool} {a : Act} {w : World}
    (ih : ∀ a' w', K a' w' → wpAnyP R pu P ops Q n (listed.setIfInBounds i true) a' w') (h : heavyT R pu P ops Q i K a w) :
    wpOp P ops Q i (fun a' w' => (lateP ops pu i = true ∨ R w w') ∧ wpAnyP R pu P ops Q n (listed.setIfInBounds i true) a' w') a w := by
  obtain ⟨o, ho, h⟩ := h
  unfold wpOp
  simp only [ho]
  rcases h with ⟨hw, h⟩ | ⟨hw, h⟩
  · simp only [hw, if_true]
    exact .inl (Oper.wp_mono (fun a' w' h' => ⟨h'.1, ih _ _ h'.2⟩) h)
  · simp only [hw, Bool.false_eq_true, if_false]
    exact ⟨.inr (hrel.refl w), ih _ _ h⟩
theorem wpAnyP_of_T (hrel : RelW R) (hs : Region.noSelect ops = true) (hQ : ∀ c a d v w, Q (.panic c) (a.put d v) w → Q (.panic c) a w) : ∀ (n : Nat) (l : Sched) (listed : Array Bool) (a : Act) (w : World),
    Closed ops listed → orderOk ops n l listed = true → wpT R pu P ops Q l a w → wpAnyP R pu P ops Q n listed a w
  | 0, .done, listed, a, w, _, ho, h => ⟨by simpa [orderOk] using ho, h⟩
  | _ + 1, .done, _, _, _, _, ho, _ => by simp [orderOk] at ho
  | 0, .hoist _ _, _, _, _, _, ho, _ => by simp [orderOk] at ho
  | 0, .one _ _, _, _, _, _, ho, _ => by simp [orderOk] at ho
  | 0, .two _ _ _ _, _, _, _, _, ho, _ => by simp [orderOk] at ho
  | 0, .many _ _, _, _, _, _, ho, _ => by simp [orderOk] at ho
  | n + 1, .hoist i r, listed, a, w, hcl, ho, h => by
    simp only [orderOk, Bool.and_eq_true] at ho
    obtain ⟨⟨hrd, hfr⟩, hrest⟩ := ho
    have hmem : i ∈ Region.ready .any ops listed := by simpa using hrd
    obtain ⟨oi, hoi, h⟩ := h
    rcases h with ⟨hw, v, hv, h3⟩ | ⟨hw, h3⟩
    · refine wpAnyP_first hrel hoi (Region.noSelect_spec hs) (fun c a w => hQ c a oi.dst v w) n listed a w hcl (Region.free_spec hoi hfr) hmem ?_ (wpAnyP_of_T hrel hs hQ n r _ _ _ (hcl.set hmem) hrest h3)
      rcases hv with ⟨hp, hv⟩ | ⟨hp, hv⟩
      · exact .inl ⟨hp, .inl ⟨hw, fun w' _ => hv w'⟩⟩
      · exact .inr ⟨hp, .inl ⟨hw, hv⟩⟩
    · refine wpAnyP_first hrel hoi (Region.noSelect_spec hs) (fun c a w => hQ c a oi.dst undef w) n listed a w hcl (Region.free_spec hoi hfr) hmem ?_ (wpAnyP_of_T hrel hs hQ n r _ _ _ (hcl.set hmem) hrest h3)
      cases hp : pu i with
      | true => exact .inl ⟨rfl, .inr ⟨hw, rfl⟩⟩
      | false => exact .inr ⟨rfl, .inr ⟨hw, rfl⟩⟩
  | n + 1, .one i r, listed, a, w, hcl, ho, h => by
    simp only [orderOk, Bool.and_eq_true, beq_iff_eq] at ho
    obtain ⟨hrd, hrest⟩ := ho
    simp only [wpAnyP]
    refine ⟨fun h0 => (by rw [h0] at hrd; cases hrd), fun j hj => ?_⟩
    rw [hrd] at hj
    obtain rfl : j = i := by simpa using hj
    exact heavyT_any hrel (fun a' w' hk => wpAnyP_of_T hrel hs hQ n r _ a' w' (hcl.set (by rw [hrd]; simp)) hrest hk) h
  | n + 1, .two i r k s, listed, a, w, hcl, ho, h => by
    simp only [orderOk, Bool.and_eq_true, beq_iff_eq] at ho
    obtain ⟨⟨hrd, hrest⟩, hrest'⟩ := ho
    simp only [wpAnyP]
    refine ⟨fun h0 => (by rw [h0] at hrd; cases hrd), fun j hj => ?_⟩
    rw [hrd] at hj
    have hj' : j = i ∨ j = k := by simpa using hj
    rcases hj' with rfl | rfl
    · exact heavyT_any hrel (fun a' w' hk => wpAnyP_of_T hrel hs hQ n r _ a' w' (hcl.set (by rw [hrd]; simp)) hrest hk) h.1
    · exact heavyT_any hrel (fun a' w' hk => wpAnyP_of_T hrel hs hQ n s _ a' w' (hcl.set (by rw [hrd]; simp)) hrest' hk) h.2
  | _ + 1, .many _ _, _, _, _, _, _, h => h.elim
theorem orderOk_of_fast {os : List Oper} {l : Sched} (hB : fastB os.toArray l = true) : Region.noSelect os.toArray = true ∧ orderOk os.toArray os.toArray.size l (Array.replicate os.toArray.size false) = true := by
  simp only [fastB, Bool.and_eq_true] at hB
  obtain ⟨⟨h1, h2⟩, h3⟩ := hB
  refine ⟨h1, order_of_M (fun o ho e he hb => ?_) _ _ _ 0 ⟨by simp, fun k hk => ?_⟩ h3⟩
  · have h4 := List.all_eq_true.1 h2 o (by simpa using ho)
    have h5 := List.all_eq_true.1 h4 e (by simpa using he)
    simpa [hb] using h5
  · simp only [List.size_toArray] at hk
    simp [hk]
/-- A REGION THAT DRAWS ITS ORDER -/
theorem wp_region_T (hrel : RelW R) (pu : Nat → Bool) {id : Nat} {os : List Oper} (l : Sched) {a : Act} {w : World} (hm : P.follows .mixedOrders = true)
    (hB : fastB os.toArray l = true) (hQ : ∀ c a d v w, Q (.panic c) (a.put d v) w → Q (.panic c) a w)
    (h : wpT R pu P os.toArray Q l a w.drew) : (Code.region id os.toArray true).wp P Q a w := by
  obtain ⟨h1, h2⟩ := orderOk_of_fast hB
  exact wp_region_any hm (wpAny_of_P _ _ _ _ (wpAnyP_of_T hrel h1 hQ _ l (Array.replicate os.toArray.size false) a w.drew (closed_start _) h2 h))
end
end Go.Proofs.YtlgpacpebjechaaGreatDoor
/-
  An evaluator for closed calls: abstract values (with block numbers of its own), an abstract memory, code as combinators. What it does not know it answers with 'no'.
-/
namespace Go.Proofs.YtlgpacpebjechaaGreatDoor
namespace Ev

/-- numbers in the two-letter system: z is 0, l p is 2 p + 1, r p is 2 p + 2 -/
inductive Pa where
  | z
  | l (p : Pa)
  | r (p : Pa)
noncomputable def Pa.succ (p : Pa) : Pa := Pa.rec (.l .z) (fun p _ => .r p) (fun _ ih => .l ih) p
noncomputable def paB (d : Nat) : Nat → Pa := Nat.rec (motive := fun _ => Nat → Pa) (fun _ => .z) (fun _ ih n => Bool.rec (motive := fun _ => Pa) (Bool.rec (motive := fun _ => Pa) (.r (ih (Nat.sub (Nat.shiftRight n 1) 1))) (.l (ih (Nat.shiftRight n 1))) (Nat.beq (Nat.land n 1) 1)) .z (Nat.beq n 0)) d

/-- values; 'bad': any value; 'cut': an empty slice of no capacity; 'emp': an empty slice; 'sym': a byte that is not told -/
inductive AV where
  | bool (b : Bool)
  | int (k : IntKind) (n : Int)
  | str (l : List Nat)
  | ptr (b : Pa) (o : Nat)
  | slice (b : Pa) (o len k : Nat)
  | map (b : Pa)
  | fn (f : FuncId) (first cap : List AV)
  | agg (l : List AV)
  | tup (l : List AV)
  | nils
  | nilm
  | nili
  | nilp
  | cut
  | emp
  | sym
  | bad
abbrev undefA : AV := .tup []

/-- slots -/
inductive EN where
  | nil
  | node (v : AV) (l r : EN)
noncomputable def EN.get (p : Pa) : EN → AV :=
  Pa.rec (motive := fun _ => EN → AV) (fun e => EN.rec (motive := fun _ => AV) .bad (fun v _ _ _ _ => v) e) (fun _ ih e => EN.rec (motive := fun _ => AV) .bad (fun _ l _ _ _ => ih l) e) (fun _ ih e => EN.rec (motive := fun _ => AV) .bad (fun _ _ r _ _ => ih r) e) p
noncomputable def EN.put (p : Pa) (x : AV) : EN → EN :=
  Pa.rec (motive := fun _ => EN → EN) (fun e => EN.rec (motive := fun _ => EN) (.node x .nil .nil) (fun _ l r _ _ => .node x l r) e) (fun _ ih e => EN.rec (motive := fun _ => EN) (.node .bad (ih .nil) .nil) (fun v l r _ _ => .node v (ih l) r) e) (fun _ ih e => EN.rec (motive := fun _ => EN) (.node .bad .nil (ih .nil)) (fun v l r _ _ => .node v l (ih r)) e) p

/-- cells, by number -/
inductive Tr where
  | nil
  | node (v : Option AV) (l r : Tr)
noncomputable def Tr.get (t : Tr) : Nat → Option AV :=
  Tr.rec (motive := fun _ => Nat → Option AV) (fun _ => none)
    (fun v _ _ gl gr n => Bool.rec (motive := fun _ => Option AV) (Bool.rec (motive := fun _ => Option AV) (gr (Nat.sub (Nat.shiftRight n 1) 1)) (gl (Nat.shiftRight n 1)) (Nat.beq (Nat.land n 1) 1)) v (Nat.beq n 0)) t
noncomputable def Tr.put (d : Nat) : Tr → Nat → AV → Tr :=
  Nat.rec (motive := fun _ => Tr → Nat → AV → Tr) (fun _ _ _ => .nil)
    (fun _ ih t n x =>
      Tr.rec (motive := fun _ => Tr)
        (Bool.rec (motive := fun _ => Tr) (Bool.rec (motive := fun _ => Tr) (.node none .nil (ih .nil (Nat.sub (Nat.shiftRight n 1) 1) x)) (.node none (ih .nil (Nat.shiftRight n 1) x) .nil) (Nat.beq (Nat.land n 1) 1)) (.node (some x) .nil .nil) (Nat.beq n 0))
        (fun v l r _ _ => Bool.rec (motive := fun _ => Tr) (Bool.rec (motive := fun _ => Tr) (.node v l (ih r (Nat.sub (Nat.shiftRight n 1) 1) x)) (.node v (ih l (Nat.shiftRight n 1) x) r) (Nat.beq (Nat.land n 1) 1)) (.node (some x) l r) (Nat.beq n 0)) t) d
/-- a list laid from cell i on; then goes on with the number behind it -/
noncomputable def trk {β : Type} (l : List AV) : Nat → Tr → (Nat → Tr → β) → β :=
  List.rec (motive := fun _ => Nat → Tr → (Nat → Tr → β) → β) (fun i t k => k i t) (fun v _ ih i t k => ih (Nat.succ i) (Tr.put 24 t i v) k) l

inductive Blk where
  | none
  | row (sz len : Nat) (c : Tr)
  | ro (len : Nat) (c : Tr)
  | map (es : List (AV × AV)) (n : Nat)
/-- blocks -/
inductive HT where
  | nil
  | node (v : Blk) (l r : HT)
noncomputable def HT.get (p : Pa) : HT → Blk :=
  Pa.rec (motive := fun _ => HT → Blk) (fun e => HT.rec (motive := fun _ => Blk) .none (fun v _ _ _ _ => v) e) (fun _ ih e => HT.rec (motive := fun _ => Blk) .none (fun _ l _ _ _ => ih l) e) (fun _ ih e => HT.rec (motive := fun _ => Blk) .none (fun _ _ r _ _ => ih r) e) p
noncomputable def HT.put (p : Pa) (x : Blk) : HT → HT :=
  Pa.rec (motive := fun _ => HT → HT) (fun e => HT.rec (motive := fun _ => HT) (.node x .nil .nil) (fun _ l r _ _ => .node x l r) e) (fun _ ih e => HT.rec (motive := fun _ => HT) (.node .none (ih .nil) .nil) (fun v l r _ _ => .node v (ih l) r) e) (fun _ ih e => HT.rec (motive := fun _ => HT) (.node .none .nil (ih .nil)) (fun v l r _ _ => .node v l (ih r)) e) p

structure Hp where
  t : HT
  n : Pa

inductive Res where
  | no
  | normal (e : EN) (h : Hp)
  | exit (id : Nat) (e : EN) (h : Hp)
  | ret (e : EN) (h : Hp)

abbrev K := AV → Hp → Res
abbrev CF := FuncId → List AV → Hp → K → Res
abbrev AO := EN → AV
abbrev AOp := CF → EN → Hp → K → Res
abbrev Step := CF → Nat → EN → Hp → Res

/-! ### looks -/
section
variable {β : Type}
noncomputable def onPtr (v : AV) (no : β) (yes : Pa → Nat → β) : β := AV.rec (motive_1 := fun _ => β) (motive_2 := fun _ => Unit) (fun _ => no) (fun _ _ => no) (fun _ => no) (fun b o => yes b o) (fun _ _ _ _ => no) (fun _ => no) (fun _ _ _ _ _ => no) (fun _ _ => no) (fun _ _ => no) no no no no no no no no () (fun _ _ _ _ => ()) v
noncomputable def onInt (v : AV) (no : β) (yes : IntKind → Int → β) : β := AV.rec (motive_1 := fun _ => β) (motive_2 := fun _ => Unit) (fun _ => no) (fun k n => yes k n) (fun _ => no) (fun _ _ => no) (fun _ _ _ _ => no) (fun _ => no) (fun _ _ _ _ _ => no) (fun _ _ => no) (fun _ _ => no) no no no no no no no no () (fun _ _ _ _ => ()) v
noncomputable def onBool (v : AV) (no : β) (yes : Bool → β) : β := AV.rec (motive_1 := fun _ => β) (motive_2 := fun _ => Unit) (fun b => yes b) (fun _ _ => no) (fun _ => no) (fun _ _ => no) (fun _ _ _ _ => no) (fun _ => no) (fun _ _ _ _ _ => no) (fun _ _ => no) (fun _ _ => no) no no no no no no no no () (fun _ _ _ _ => ()) v
noncomputable def onStr (v : AV) (no : β) (yes : List Nat → β) : β := AV.rec (motive_1 := fun _ => β) (motive_2 := fun _ => Unit) (fun _ => no) (fun _ _ => no) (fun l => yes l) (fun _ _ => no) (fun _ _ _ _ => no) (fun _ => no) (fun _ _ _ _ _ => no) (fun _ _ => no) (fun _ _ => no) no no no no no no no no () (fun _ _ _ _ => ()) v
noncomputable def onAgg (v : AV) (no : β) (yes : List AV → β) : β := AV.rec (motive_1 := fun _ => β) (motive_2 := fun _ => Unit) (fun _ => no) (fun _ _ => no) (fun _ => no) (fun _ _ => no) (fun _ _ _ _ => no) (fun _ => no) (fun _ _ _ _ _ => no) (fun l _ => yes l) (fun _ _ => no) no no no no no no no no () (fun _ _ _ _ => ()) v
noncomputable def onTup (v : AV) (no : β) (yes : List AV → β) : β := AV.rec (motive_1 := fun _ => β) (motive_2 := fun _ => Unit) (fun _ => no) (fun _ _ => no) (fun _ => no) (fun _ _ => no) (fun _ _ _ _ => no) (fun _ => no) (fun _ _ _ _ _ => no) (fun _ _ => no) (fun l _ => yes l) no no no no no no no no () (fun _ _ _ _ => ()) v
noncomputable def onFn (v : AV) (no : β) (yes : FuncId → List AV → List AV → β) : β := AV.rec (motive_1 := fun _ => β) (motive_2 := fun _ => Unit) (fun _ => no) (fun _ _ => no) (fun _ => no) (fun _ _ => no) (fun _ _ _ _ => no) (fun _ => no) (fun f a c _ _ => yes f a c) (fun _ _ => no) (fun _ _ => no) no no no no no no no no () (fun _ _ _ _ => ()) v
/-- slices: nil, of no capacity, empty, others -/
noncomputable def onSlice (v : AV) (no : β) (nil cut emp : β) (yes : Pa → Nat → Nat → Nat → β) : β := AV.rec (motive_1 := fun _ => β) (motive_2 := fun _ => Unit) (fun _ => no) (fun _ _ => no) (fun _ => no) (fun _ _ => no) (fun b o n k => yes b o n k) (fun _ => no) (fun _ _ _ _ _ => no) (fun _ _ => no) (fun _ _ => no) nil no no no cut emp no no () (fun _ _ _ _ => ()) v
noncomputable def onMap (v : AV) (no nil : β) (yes : Pa → β) : β := AV.rec (motive_1 := fun _ => β) (motive_2 := fun _ => Unit) (fun _ => no) (fun _ _ => no) (fun _ => no) (fun _ _ => no) (fun _ _ _ _ => no) (fun b => yes b) (fun _ _ _ _ _ => no) (fun _ _ => no) (fun _ _ => no) no nil no no no no no no () (fun _ _ _ _ => ()) v
noncomputable def onRow (v : Blk) (no : β) (yes : Nat → Nat → Tr → β) : β := Blk.rec (motive := fun _ => β) no (fun sz len c => yes sz len c) (fun _ _ => no) (fun _ _ => no) v
noncomputable def onMapB (v : Blk) (no : β) (yes : List (AV × AV) → Nat → β) : β := Blk.rec (motive := fun _ => β) no (fun _ _ _ => no) (fun _ _ => no) (fun es n => yes es n) v
noncomputable def onOpt {α : Type} (v : Option α) (no : β) (yes : α → β) : β := Option.rec (motive := fun _ => β) no (fun x => yes x) v
noncomputable def iff (b : Bool) (no yes : β) : β := Bool.rec (motive := fun _ => β) no yes b
noncomputable def onNat (v : AV) (no : β) (yes : Nat → β) : β := onInt v no (fun _ n => Int.rec (motive := fun _ => β) (fun m => yes m) (fun _ => no) n)
end
noncomputable def asRow (v : Blk) : Tr := Blk.rec (motive := fun _ => Tr) .nil (fun _ _ c => c) (fun _ c => c) (fun _ _ => .nil) v
noncomputable def isCell (v : AV) : Bool := AV.rec (motive_1 := fun _ => Bool) (motive_2 := fun _ => Unit) (fun _ => true) (fun _ _ => true) (fun _ => true) (fun _ _ => true) (fun _ _ _ _ => true) (fun _ => true) (fun _ _ _ _ _ => true) (fun _ _ => false) (fun _ _ => false) true true true true true true true false () (fun _ _ _ _ => ()) v
noncomputable def allCell (l : List AV) : Bool := List.rec (motive := fun _ => Bool) true (fun x _ ih => iff (isCell x) false ih) l
noncomputable def cells (v : AV) : List AV := onAgg v [v] (fun l => l)
noncomputable def cellsO (v : AV) : Option (List AV) := onAgg v (iff (isCell v) none (some [v])) some
noncomputable def hnew {β : Type} (h : Hp) (x : Blk) (k : Pa → Hp → β) : β := Hp.rec (motive := fun _ => β) (fun t n => k n ⟨HT.put n x t, Pa.succ n⟩) h
noncomputable def hget (h : Hp) (b : Pa) : Blk := Hp.rec (motive := fun _ => Blk) (fun t _ => HT.get b t) h
noncomputable def hput (h : Hp) (b : Pa) (x : Blk) : Hp := Hp.rec (motive := fun _ => Hp) (fun t n => ⟨HT.put b x t, n⟩) h
noncomputable def readn (t : Tr) (n : Nat) : Nat → Option (List AV) := Nat.rec (motive := fun _ => Nat → Option (List AV)) (fun _ => some []) (fun _ ih o => onOpt (Tr.get t o) none (fun v => onOpt (ih (Nat.succ o)) none (fun l => some (v :: l)))) n
noncomputable def evs (l : List AO) (e : EN) : List AV := List.rec (motive := fun _ => List AV) [] (fun x _ ih => x e :: ih) l
noncomputable def app (l m : List AV) : List AV := List.rec (motive := fun _ => List AV) m (fun x _ ih => x :: ih) l
noncomputable def nth (l : List AV) : Nat → Option AV := List.rec (motive := fun _ => Nat → Option AV) (fun _ => none) (fun x _ ih n => Nat.rec (motive := fun _ => Option AV) (some x) (fun m _ => ih m) n) l
noncomputable def nthN (l : List Nat) : Nat → Option Nat := List.rec (motive := fun _ => Nat → Option Nat) (fun _ => none) (fun x _ ih n => Nat.rec (motive := fun _ => Option Nat) (some x) (fun m _ => ih m) n) l
noncomputable def lenA (l : List AV) : Nat := List.rec (motive := fun _ => Nat) 0 (fun _ _ ih => Nat.succ ih) l
noncomputable def lenN (l : List Nat) : Nat := List.rec (motive := fun _ => Nat) 0 (fun _ _ ih => Nat.succ ih) l
noncomputable def lenE (l : List (AV × AV)) : Nat := List.rec (motive := fun _ => Nat) 0 (fun _ _ ih => Nat.succ ih) l
/-- a value at place i of a list -/
noncomputable def setA (l : List AV) (x : AV) : Nat → List AV := List.rec (motive := fun _ => Nat → List AV) (fun _ => []) (fun y r ih n => Nat.rec (motive := fun _ => List AV) (x :: r) (fun m _ => y :: ih m) n) l
/-- the cells of a list from place i on -/
noncomputable def over (cs : List AV) : List AV → Nat → List AV := List.rec (motive := fun _ => List AV → Nat → List AV) (fun l _ => l) (fun x _ ih l i => ih (setA l x i) (Nat.succ i)) cs
noncomputable def fill (e : EN) (parts : List (Nat × Nat × AO)) : List AV → Option (List AV) :=
  List.rec (motive := fun _ => List AV → Option (List AV)) (fun l => some l) (fun p _ ih l => onOpt (cellsO (p.2.2 e)) none (fun cs => iff (iff (Nat.beq (lenA cs) p.2.1) false (Nat.ble (Nat.add p.1 p.2.1) (lenA l))) none (ih (over cs l p.1)))) parts

noncomputable abbrev t (p : Pa) : AO := fun e => EN.get p e
abbrev c (v : AV) : AO := fun _ => v

/-! ### numbers -/
noncomputable def wrapA (k : IntKind) (n : Int) : Int :=
  IntKind.rec (motive := fun _ => Int) (k.wrap n) (k.wrap n) (k.wrap n)
    (Int.rec (motive := fun _ => Int) (fun m => iff (Nat.ble m 9223372036854775807) (k.wrap n) (.ofNat m)) (fun m => iff (Nat.ble m 9223372036854775807) (k.wrap n) (.negSucc m)) n)
    (Int.rec (motive := fun _ => Int) (fun m => .ofNat (Nat.mod m 256)) (fun m => .ofNat (Nat.sub 255 (Nat.mod m 256))) n) (k.wrap n) (k.wrap n)
    (Int.rec (motive := fun _ => Int) (fun m => .ofNat (Nat.mod m 18446744073709551616)) (fun _ => k.wrap n) n) k
noncomputable def ile (a b : Int) : Bool := Int.rec (motive := fun _ => Bool) (fun a => Int.rec (motive := fun _ => Bool) (fun b => Nat.ble a b) (fun _ => false) b) (fun a => Int.rec (motive := fun _ => Bool) (fun _ => true) (fun b => Nat.ble b a) b) a
noncomputable def ibeq (a b : Int) : Bool := Int.rec (motive := fun _ => Bool) (fun a => Int.rec (motive := fun _ => Bool) (fun b => Nat.beq a b) (fun _ => false) b) (fun a => Int.rec (motive := fun _ => Bool) (fun _ => false) (fun b => Nat.beq a b) b) a
noncomputable def inot (b : Bool) : Bool := iff b true false
noncomputable def kbeq (a b : IntKind) : Bool := IntKind.rec (motive := fun _ => Bool) (IntKind.rec true false false false false false false false b) (IntKind.rec false true false false false false false false b) (IntKind.rec false false true false false false false false b) (IntKind.rec false false false true false false false false b) (IntKind.rec false false false false true false false false b) (IntKind.rec false false false false false true false false b) (IntKind.rec false false false false false false true false b) (IntKind.rec false false false false false false false true b) a
noncomputable def lbeq (l : List Nat) : List Nat → Bool := List.rec (motive := fun _ => List Nat → Bool) (fun m => List.rec (motive := fun _ => Bool) true (fun _ _ _ => false) m) (fun x _ ih m => List.rec (motive := fun _ => Bool) false (fun y r _ => iff (Nat.beq x y) false (ih r)) m) l
/-- equality of two numbers, two strings; 'none': not told -/
noncomputable def beqA (a b : AV) : Option Bool :=
  onInt a (onStr a none (fun l => onStr b none (fun m => some (lbeq l m)))) (fun j x => onInt b none (fun k y => iff (kbeq j k) none (some (ibeq x y))))
/-- of two rows of numbers -/
noncomputable def beqL (l : List AV) : List AV → Option Bool :=
  List.rec (motive := fun _ => List AV → Option Bool) (fun m => List.rec (motive := fun _ => Option Bool) (some true) (fun _ _ _ => none) m)
    (fun x _ ih m => List.rec (motive := fun _ => Option Bool) none (fun y r _ => onInt x none (fun j a => onInt y none (fun k b => iff (kbeq j k) none (onOpt (ih r) none (fun q => some (iff (ibeq a b) false q)))))) m) l
noncomputable def keqI (a b : AV) : Option Bool := onInt a none (fun j x => onInt b none (fun k y => iff (kbeq j k) none (some (ibeq x y))))
noncomputable def keqS (a b : AV) : Option Bool := onStr a none (fun l => onStr b none (fun m => some (lbeq l m)))
noncomputable def keqL (n : Nat) (a b : AV) : Option Bool := onAgg a none (fun l => onAgg b none (fun m => iff (Nat.beq (lenA l) n) none (beqL l m)))

/-! ### operations -/
noncomputable def oStuck : AOp := fun _ _ _ _ => .no
noncomputable def oMov (x : AO) : AOp := fun _ e h k => k (x e) h
noncomputable def oPick (q a b : AO) : AOp := fun _ e h k => onBool (q e) .no (fun q => iff q (k (b e) h) (k (a e) h))
noncomputable def oAlloc (x : Blk) : AOp := fun _ _ h k => hnew h x (fun b h => k (.ptr b 0) h)
noncomputable def oBox (x : AO) : AOp := fun _ e h k => onOpt (cellsO (x e)) .no (fun cs => trk cs 0 .nil (fun n tr => hnew h (.row 0 n tr) (fun b h => k (.ptr b 0) h)))
noncomputable def oBuild (z : List AV) (ps : List (Nat × Nat × AO)) : AOp := fun _ e h k => onOpt (fill e ps z) .no (fun l => k (.agg l) h)
noncomputable def oBslice (sz len : Nat) (z : List AV) (ps : List (Nat × Nat × AO)) : AOp := fun _ e h k => onOpt (fill e ps z) .no (fun l => trk l 0 .nil (fun n tr => hnew h (.row sz n tr) (fun b h => k (.slice b 0 len 0) h)))
noncomputable def oLoad1 (a : AO) : AOp := fun _ e h k => onPtr (a e) .no (fun b o => onOpt (Tr.get (asRow (hget h b)) o) .no (fun v => k v h))
noncomputable def oLoadn (n : Nat) (a : AO) : AOp := fun _ e h k => onPtr (a e) .no (fun b o => onOpt (readn (asRow (hget h b)) n o) .no (fun l => k (.agg l) h))
noncomputable def oStore (n : Nat) (a x : AO) : AOp := fun _ e h k => onPtr (a e) .no (fun b o => onOpt (cellsO (x e)) .no (fun cs => onRow (hget h b) .no (fun sz len tr => trk cs o tr (fun j tr => iff (iff (Nat.beq j (Nat.add o n)) false (iff (Nat.ble j len) false (allCell cs))) .no (k undefA (hput h b (.row sz len tr)))))))
noncomputable def oNil (x : AO) : AOp := fun _ e h k => onPtr (x e) .no (fun b o => k (.ptr b o) h)
noncomputable def oInt2 (f : IntKind → Int → Int → AV) (x y : AO) : AOp := fun _ e h k => onInt (x e) .no (fun j a => onInt (y e) .no (fun j' b => iff (kbeq j j') .no (k (f j a b) h)))
noncomputable def oAdd (x y : AO) : AOp := oInt2 (fun j a b => .int j (wrapA j (Int.add a b))) x y
noncomputable def appN (l m : List Nat) : List Nat := List.rec (motive := fun _ => List Nat) m (fun x _ ih => x :: ih) l
noncomputable def oCat (x y : AO) : AOp := fun _ e h k => onStr (x e) .no (fun l => onStr (y e) .no (fun m => iff (iff (Nat.ble (lenN l) 1000000) false (Nat.ble (lenN m) 1000000)) .no (k (.str (appN l m)) h)))
noncomputable def oSub (x y : AO) : AOp := oInt2 (fun j a b => .int j (wrapA j (Int.sub a b))) x y
noncomputable def oMul (x y : AO) : AOp := oInt2 (fun j a b => .int j (wrapA j (Int.mul a b))) x y
noncomputable def oLss (x y : AO) : AOp := oInt2 (fun _ a b => .bool (inot (ile b a))) x y
noncomputable def oLeq (x y : AO) : AOp := oInt2 (fun _ a b => .bool (ile a b)) x y
noncomputable def oGtr (x y : AO) : AOp := oInt2 (fun _ a b => .bool (inot (ile a b))) x y
noncomputable def oGeq (x y : AO) : AOp := oInt2 (fun _ a b => .bool (ile b a)) x y
noncomputable def oQuo (x y : AO) : AOp := fun _ e h k => onInt (x e) .no (fun j a => onInt (y e) .no (fun j' b => iff (kbeq j j') .no (Int.rec (motive := fun _ => Res) (fun a => Int.rec (motive := fun _ => Res) (fun b => iff (Nat.beq b 0) (k (.int j (wrapA j (.ofNat (Nat.div a b)))) h) .no) (fun _ => .no) b) (fun _ => .no) a)))
noncomputable def oRem (x y : AO) : AOp := fun _ e h k => onInt (x e) .no (fun j a => onInt (y e) .no (fun j' b => iff (kbeq j j') .no (Int.rec (motive := fun _ => Res) (fun a => Int.rec (motive := fun _ => Res) (fun b => iff (Nat.beq b 0) (k (.int j (.ofNat (Nat.mod a b))) h) .no) (fun _ => .no) b) (fun _ => .no) a)))
noncomputable def oBits (f : Nat → Nat → Nat) (x y : AO) : AOp := fun _ e h k => onInt (x e) .no (fun j a => onInt (y e) .no (fun j' b => iff (iff (kbeq j .u64) false (kbeq j' .u64)) .no (Int.rec (motive := fun _ => Res) (fun a => Int.rec (motive := fun _ => Res) (fun b => iff (iff (Nat.ble a 18446744073709551615) false (Nat.ble b 18446744073709551615)) .no (k (.int .u64 (.ofNat (f a b))) h)) (fun _ => .no) b) (fun _ => .no) a)))
noncomputable def oAnd (x y : AO) : AOp := oBits Nat.land x y
noncomputable def oOr (x y : AO) : AOp := oBits Nat.lor x y
noncomputable def oShl (x y : AO) : AOp := fun _ e h k => onInt (x e) .no (fun j a => onNat (y e) .no (fun b => iff (Nat.ble b 63) .no (iff (kbeq j .u64) .no (Int.rec (motive := fun _ => Res) (fun a => k (.int j (wrapA j (.ofNat (Nat.shiftLeft a b)))) h) (fun _ => .no) a))))
noncomputable def oShr (x y : AO) : AOp := fun _ e h k => onInt (x e) .no (fun j a => onNat (y e) .no (fun b => iff (Nat.ble b 63) .no (iff (iff (kbeq j .u64) (kbeq j .i64) true) .no (Int.rec (motive := fun _ => Res) (fun a => k (.int j (.ofNat (Nat.shiftRight a b))) h) (fun a => k (.int j (.negSucc (Nat.shiftRight a b))) h) a))))
noncomputable def oEq (x y : AO) : AOp := fun _ e h k => onOpt (beqA (x e) (y e)) .no (fun q => k (.bool q) h)
noncomputable def oNe (x y : AO) : AOp := fun _ e h k => onOpt (beqA (x e) (y e)) .no (fun q => k (.bool (inot q)) h)
noncomputable def oEqB (x y : AO) : AOp := fun _ e h k => onBool (x e) .no (fun a => onBool (y e) .no (fun b => k (.bool (iff a (inot b) b)) h))
noncomputable def oNeB (x y : AO) : AOp := fun _ e h k => onBool (x e) .no (fun a => onBool (y e) .no (fun b => k (.bool (iff a b (inot b))) h))
noncomputable def oEqL (n : Nat) (x y : AO) : AOp := fun _ e h k => onOpt (keqL n (x e) (y e)) .no (fun q => k (.bool q) h)
noncomputable def oNeL (n : Nat) (x y : AO) : AOp := fun _ e h k => onOpt (keqL n (x e) (y e)) .no (fun q => k (.bool (inot q)) h)
noncomputable def oEqS (x : AO) : AOp := fun _ e h k => onSlice (x e) .no (k (.bool true) h) .no .no (fun _ _ _ _ => k (.bool false) h)
noncomputable def oEqM (x : AO) : AOp := fun _ e h k => onMap (x e) .no (k (.bool true) h) (fun _ => k (.bool false) h)
noncomputable def oNot (x : AO) : AOp := fun _ e h k => onBool (x e) .no (fun b => k (.bool (inot b)) h)
noncomputable def oXor (x : AO) : AOp := fun _ e h k => onInt (x e) .no (fun j a => iff (kbeq j .u64) .no (Int.rec (motive := fun _ => Res) (fun a => iff (Nat.ble a 18446744073709551615) .no (k (.int .u64 (.ofNat (Nat.xor 18446744073709551615 a))) h)) (fun _ => .no) a))
noncomputable def oConv (j : IntKind) (x : AO) : AOp := fun _ e h k => onInt (x e) .no (fun _ a => k (.int j (wrapA j a)) h)
noncomputable def bytesOf (l : List AV) : Option (List Nat) := List.rec (motive := fun _ => Option (List Nat)) (some []) (fun x _ ih => onInt x none (fun j n => iff (kbeq j .u8) none (Int.rec (motive := fun _ => Option (List Nat)) (fun m => iff (Nat.ble m 255) none (onOpt ih none (fun r => some (m :: r)))) (fun _ => none) n))) l
noncomputable def oToStr (x : AO) : AOp := fun _ e h k => onSlice (x e) .no (k (.str []) h) .no .no (fun b o n _ => onOpt (readn (asRow (hget h b)) n o) .no (fun l => onOpt (bytesOf l) .no (fun s => k (.str s) h)))
noncomputable def oMkfn (f : FuncId) (a q : List AO) : AOp := fun _ e h k => k (.fn f (evs a e) (evs q e)) h
noncomputable def oMkmap : AOp := fun _ _ h k => hnew h (.map [] 0) (fun b h => k (.map b) h)
noncomputable def zeros (z : List AV) (n : Nat) : List AV := Nat.rec (motive := fun _ => List AV) [] (fun _ ih => app z ih) n
noncomputable def oMkslice (sz : Nat) (z : List AV) (l q : AO) : AOp := fun _ e h k => onNat (l e) .no (fun l => onNat (q e) .no (fun q => iff (iff (Nat.beq l q) false (Nat.ble l 1000000)) .no (trk (zeros z l) 0 .nil (fun n tr => hnew h (.row sz n tr) (fun b h => k (.slice b 0 l 0) h)))))
noncomputable def bounds (e : EN) (lo hi : Option AO) (len : Nat) (nx : Res) (yes : Nat → Nat → Res) : Res :=
  onOpt (onOpt hi (some len) (fun x => onNat (x e) none some)) nx (fun hh => onOpt (onOpt lo (some 0) (fun x => onNat (x e) none some)) nx (fun l => iff (iff (Nat.ble hh len) false (Nat.ble l hh)) nx (yes l hh)))
noncomputable def oSlice (sz : Nat) (x : AO) (lo hi : Option AO) : AOp := fun _ e h k => onSlice (x e) .no (bounds e lo hi 0 .no (fun _ _ => k .nils h)) .no .no
  (fun b o n j => onRow (hget h b) .no (fun sz' len _ => iff (iff (Nat.beq sz' sz) false (iff (Nat.ble 1 sz) false (Nat.ble (Nat.mul (Nat.add j n) sz) len))) .no (bounds e lo hi n .no (fun l hh => iff (iff (Nat.beq l hh) false (Nat.ble 1 l)) (k (.slice b (Nat.add o (Nat.mul l sz)) (Nat.sub hh l) (Nat.add j l)) h) (k .emp h)))))
noncomputable def oSliceS (x : AO) (lo hi : Option AO) : AOp := fun _ e h k => onStr (x e) .no (fun s => bounds e lo hi (lenN s) .no (fun l hh => k (.str ((s.take hh).drop l)) h))
noncomputable def oFieldAddr (x : AO) (off : Nat) : AOp := fun _ e h k => onPtr (x e) .no (fun b o => k (.ptr b (Nat.add o off)) h)
noncomputable def oIndexA (n sz : Nat) (x i : AO) : AOp := fun _ e h k => onPtr (x e) .no (fun b o => onNat (i e) .no (fun i => iff (Nat.ble (Nat.succ i) n) .no (k (.ptr b (Nat.add o (Nat.mul i sz))) h)))
noncomputable def oIndexS (sz : Nat) (x i : AO) : AOp := fun _ e h k => onSlice (x e) .no .no .no .no (fun b o n _ => onNat (i e) .no (fun i => iff (Nat.ble (Nat.succ i) n) .no (k (.ptr b (Nat.add o (Nat.mul i sz))) h)))
noncomputable def oIndexStr (x i : AO) : AOp := fun _ e h k => onStr (x e) .no (fun s => onNat (i e) .no (fun i => onOpt (nthN s i) .no (fun b => k (.int .u8 (.ofNat b)) h)))
inductive FR where
  | no
  | miss
  | hit (i : Nat) (v : AV)
noncomputable def find (kq : AV → AV → Option Bool) (x : AV) (es : List (AV × AV)) : Nat → FR := List.rec (motive := fun _ => Nat → FR) (fun _ => .miss) (fun e _ ih i => onOpt (kq x e.1) .no (fun q => iff q (ih (Nat.succ i)) (.hit i e.2))) es
noncomputable def oLookup (kq : AV → AV → Option Bool) (z : AV) (x i : AO) (ok : Bool) : AOp := fun _ e h k => onOpt (kq (i e) (i e)) .no (fun _ => onMap (x e) .no .no (fun b => onMapB (hget h b) .no (fun es _ =>
  FR.rec (motive := fun _ => Res) .no (k (iff ok z (.tup [z, .bool false])) h) (fun _ v => k (iff ok v (.tup [v, .bool true])) h) (find kq (i e) es 0))))
noncomputable def setE (l : List (AV × AV)) (x : AV × AV) : Nat → List (AV × AV) := List.rec (motive := fun _ => Nat → List (AV × AV)) (fun _ => []) (fun y r ih n => Nat.rec (motive := fun _ => List (AV × AV)) (x :: r) (fun m _ => y :: ih m) n) l
noncomputable def snocE (l : List (AV × AV)) (x : AV × AV) : List (AV × AV) := List.rec (motive := fun _ => List (AV × AV)) [x] (fun y _ ih => y :: ih) l
noncomputable def oMapset (kq : AV → AV → Option Bool) (m x v : AO) : AOp := fun _ e h k => onOpt (kq (x e) (x e)) .no (fun _ => onMap (m e) .no .no (fun b => onMapB (hget h b) .no (fun es n =>
  FR.rec (motive := fun _ => Res) .no (k undefA (hput h b (.map (snocE es (x e, v e)) (Nat.succ n)))) (fun i _ => k undefA (hput h b (.map (setE es (x e, v e) i) n))) (find kq (x e) es 0))))
noncomputable def oExtract (x : AO) (i : Nat) : AOp := fun _ e h k => onTup (x e) .no (fun l => onOpt (nth l i) .no (fun v => k v h))
noncomputable def nI (n : Nat) : AV := .int .i64 (.ofNat n)
noncomputable def oLenStr (x : AO) : AOp := fun _ e h k => onStr (x e) .no (fun s => k (nI (lenN s)) h)
noncomputable def oLenSl (x : AO) : AOp := fun _ e h k => onSlice (x e) .no (k (nI 0) h) (k (nI 0) h) (k (nI 0) h) (fun _ _ n _ => k (nI n) h)
noncomputable def oLenM (x : AO) : AOp := fun _ e h k => onMap (x e) .no (k (nI 0) h) (fun b => onMapB (hget h b) .no (fun es _ => k (nI (lenE es)) h))
noncomputable def oLenA (n : Nat) : AOp := fun _ _ h k => k (nI n) h
noncomputable def oCap (x : AO) : AOp := fun _ e h k => onSlice (x e) .no (k (nI 0) h) .no .no (fun _ _ _ _ => .no)
/-- l is laid behind the slice; what it lay in before is gone -/
noncomputable def grow (sz : Nat) (s : AV) (n : Nat) (l : List AV) (h : Hp) (k : K) : Res :=
  iff (Nat.ble n 1000000) .no
  (onSlice s .no (trk l 0 .nil (fun j tr => hnew h (.row sz j tr) (fun b h => k (.slice b 0 n 0) h))) .no .no
    (fun b o m j => iff (iff (Nat.beq o 0) false (iff (Nat.beq j 0) false (Nat.ble m 1000000))) .no (onRow (hget h b) .no (fun sz' len tr => iff (iff (Nat.beq sz' sz) false (Nat.ble 1 sz)) .no
      (iff (Nat.beq len (Nat.mul m sz))
        (onOpt (readn tr (Nat.mul m sz) 0) .no (fun old => iff (Nat.ble (Nat.mul m sz) len) .no (trk (app old l) 0 .nil (fun i tr => hnew (hput h b .none) (.row sz i tr) (fun b h => k (.slice b 0 (Nat.add m n) 0) h)))))
        (trk l len tr (fun i tr => hnew (hput h b .none) (.row sz i tr) (fun b h => k (.slice b 0 (Nat.add m n) 0) h))))))))
noncomputable def oAppend (sz : Nat) (s x : AO) : AOp := fun _ e h k => onSlice (x e) .no .no .no .no
  (fun b o n _ => onOpt (readn (asRow (hget h b)) (Nat.mul n sz) o) .no (fun l => iff (iff (Nat.beq n 0) (allCell l) false) .no (grow sz (s e) n l h k)))
noncomputable def oAppendZ (sz : Nat) (z : List AV) (s x : AO) : AOp := fun _ e h k => onNat (x e) .no (fun n => iff (iff (Nat.beq n 0) (iff (Nat.ble n 1000000) false (allCell z)) false) .no (grow sz (s e) n (zeros z n) h k))
/-- nothing is laid behind -/
noncomputable def oAppend0 (sz : Nat) (s x : AO) : AOp := fun cf e h k => onSlice (x e) (oAppend sz s x cf e h k)
    (onSlice (s e) .no (k .nils h) .no .no (fun b o n j => onRow (hget h b) .no (fun sz' len _ => iff (iff (Nat.beq sz' sz) false (iff (Nat.ble 1 sz) false (Nat.ble (Nat.mul (Nat.add j n) sz) len))) .no (k (.slice b o n j) h))))
    .no (onSlice (s e) .no (k .nils h) .no .no (fun b o n j => onRow (hget h b) .no (fun sz' len _ => iff (iff (Nat.beq sz' sz) false (iff (Nat.ble 1 sz) false (Nat.ble (Nat.mul (Nat.add j n) sz) len))) .no (k (.slice b o n j) h))))
    (fun _ _ _ _ => oAppend sz s x cf e h k)
noncomputable def oCall (f : AO) (args : List AO) : AOp := fun cf e h k => onFn (f e) .no (fun f a q => cf f (app a (app (evs args e) q)) h k)
noncomputable def oCallF (f : FuncId) (args : List AO) : AOp := fun cf e h k => cf f (evs args e) h k
noncomputable def oDefer (f : AO) : AOp := fun _ e h k => onFn (f e) .no (fun f a q => iff (iff (Nat.beq f 18) false (iff (Nat.beq (lenA a) 0) false (Nat.beq (lenA q) 3))) .no (k undefA h))

/-! ### steps -/
noncomputable def sEnd : Step := fun _ _ e h => .normal e h
noncomputable def I (d : Pa) (op : AOp) (r : Step) : Step := fun cf n e h => op cf e h (fun v h' => r cf n (EN.put d v e) h')
noncomputable def I0 (op : AOp) (r : Step) : Step := fun cf n e h => op cf e h (fun _ h' => r cf n e h')
/-- is it wanted? -/
noncomputable def onGuard {β : Type} (v : AV) (want : Bool) (no skip go : β) : β := onBool v (onTup v no (fun l => List.rec (motive := fun _ => β) skip (fun _ _ _ => no) l)) (fun b => iff b (iff want go skip) (iff want skip go))
noncomputable def G (g : Pa) (want : Bool) (d : Pa) (op : AOp) (r : Step) : Step := fun cf n e h => onGuard (EN.get g e) want .no (r cf n (EN.put d undefA e) h) (op cf e h (fun v h' => r cf n (EN.put d v e) h'))
noncomputable def G0 (g : Pa) (want : Bool) (op : AOp) (r : Step) : Step := fun cf n e h => onGuard (EN.get g e) want .no (r cf n e h) (op cf e h (fun _ h' => r cf n e h'))
noncomputable def sSeq (a b : Step) : Step := fun cf n e h => Res.rec (motive := fun _ => Res) .no (fun e h => b cf n e h) (fun id e h => .exit id e h) (fun e h => .ret e h) (a cf n e h)
noncomputable def sCond (x : AO) (a b : Step) : Step := fun cf n e h => onBool (x e) .no (fun q => iff q (b cf n e h) (a cf n e h))
noncomputable def sBlock (id : Nat) (a : Step) : Step := fun cf n e h => Res.rec (motive := fun _ => Res) .no (fun e h => .normal e h) (fun j e h => iff (Nat.beq j id) (.exit j e h) (.normal e h)) (fun e h => .ret e h) (a cf n e h)
noncomputable def sLoop (a : Step) : Step := fun cf n e h => Nat.rec (motive := fun _ => EN → Hp → Res) (fun _ _ => .no) (fun _ ih e h => Res.rec (motive := fun _ => Res) .no (fun e h => ih e h) (fun j e h => .exit j e h) (fun e h => .ret e h) (a cf n e h)) n e h
noncomputable def sExit (id : Nat) : Step := fun _ _ e h => .exit id e h
noncomputable def sRet : Step := fun _ _ e h => .ret e h
noncomputable def sStuck : Step := fun _ _ _ _ => .no

/-! ### regions that draw their order: what is read in them must stay -/
noncomputable def pbeq (a : Pa) : Pa → Bool := Pa.rec (motive := fun _ => Pa → Bool) (fun b => Pa.rec (motive := fun _ => Bool) true (fun _ _ => false) (fun _ _ => false) b) (fun _ ih b => Pa.rec (motive := fun _ => Bool) false (fun q _ => ih q) (fun _ _ => false) b) (fun _ ih b => Pa.rec (motive := fun _ => Bool) false (fun _ _ => false) (fun q _ => ih q) b) a
noncomputable def vbeq (a b : AV) : Bool :=
  onPtr a (onMap a (onSlice a (onBool a (onOpt (beqA a b) false (fun q => q)) (fun x => onBool b false (fun y => iff x (inot y) y))) (onSlice b false true false false (fun _ _ _ _ => false)) false false
      (fun p o n k => onSlice b false false false false (fun p' o' n' k' => iff (pbeq p p') false (iff (Nat.beq o o') false (iff (Nat.beq n n') false (Nat.beq k k'))))))
    (onMap b false true (fun _ => false)) (fun p => onMap b false false (fun p' => pbeq p p')))
    (fun p o => onPtr b false (fun p' o' => iff (pbeq p p') false (Nat.beq o o')))
noncomputable def sameN (t u : Tr) (n : Nat) : Nat → Bool := Nat.rec (motive := fun _ => Nat → Bool) (fun _ => true) (fun _ ih o => onOpt (Tr.get t o) false (fun x => onOpt (Tr.get u o) false (fun y => iff (vbeq x y) false (ih (Nat.succ o))))) n
noncomputable def sameS (b : Pa) (o n : Nat) (sn : List (Hp × Hp)) : Bool := List.rec (motive := fun _ => Bool) true (fun p _ ih => iff (sameN (asRow (hget p.1 b)) (asRow (hget p.2 b)) n o) false ih) sn
noncomputable def sameR (h : Hp) (rd : List (Pa × Nat × Nat)) (sn : List (Hp × Hp)) : Bool := List.rec (motive := fun _ => Bool) true (fun p _ ih => iff (onRow (hget h p.1) false (fun _ _ _ => sameS p.1 p.2.1 p.2.2 sn)) false ih) rd
inductive DK where
  | pure
  | load (n : Nat) (a : AO)
  | late
  | heavy
structure DI where
  ix : Nat
  d : Option Pa
  g : Option (Pa × Bool)
  k : DK
  op : AOp
noncomputable def putO (d : Option Pa) (v : AV) (e : EN) : EN := onOpt d e (fun p => EN.put p v e)
/-- an operation alone; then goes on with what it gives -/
noncomputable def run1 {β : Type} (no : β) (op : AOp) (cf : CF) (e : EN) (h : Hp) (k : AV → Hp → β) : β := Res.rec (motive := fun _ => β) no (fun e' h' => k (EN.get .z e') h') (fun _ _ _ => no) (fun _ _ => no) (op cf e h (fun v h' => .normal (.node v .nil .nil) h'))
noncomputable def dstep {β : Type} (no : β) (cf : CF) (i : DI) (go : List (Pa × Nat × Nat) → List (Hp × Hp) → EN → Hp → β) (rd : List (Pa × Nat × Nat)) (sn : List (Hp × Hp)) (e : EN) (h : Hp) : β :=
  DK.rec (motive := fun _ => β)
    (run1 no i.op cf e h (fun v h' => go rd sn (putO i.d v e) h'))
    (fun m a => onPtr (a e) no (fun b o => run1 no i.op cf e h (fun v h' => go ((b, o, m) :: rd) sn (putO i.d v e) h')))
    (run1 no i.op cf e h (fun v h' => go rd sn (putO i.d v e) h'))
    (run1 no i.op cf e h (fun v h' => go rd ((h, h') :: sn) (putO i.d v e) h')) i.k
noncomputable def dgoK {β : Type} (no : β) (fin : List (Pa × Nat × Nat) → List (Hp × Hp) → EN → Hp → β) (cf : CF) (l : List DI) : List (Pa × Nat × Nat) → List (Hp × Hp) → EN → Hp → β :=
  List.rec (motive := fun _ => List (Pa × Nat × Nat) → List (Hp × Hp) → EN → Hp → β) (fun rd sn e h => fin rd sn e h)
    (fun i _ ih rd sn e h => onOpt i.g (dstep no cf i ih rd sn e h) (fun g => onGuard (EN.get g.1 e) g.2 no (ih rd sn (putO i.d undefA e) h) (dstep no cf i ih rd sn e h))) l
noncomputable def sDraw (l : List DI) : Step := fun cf _ e h => dgoK .no (fun rd sn e' h' => iff (sameR h rd sn) .no (.normal e' h')) cf l [] [] e h

/-! ### functions -/
inductive ARes where
  | tmp (p : Pa)
  | cell1 (p : Pa)
  | celln (p : Pa) (n : Nat)
  | stuck
structure AF where
  nt : Nat
  results : List ARes
  body : Step
noncomputable def resA (e : EN) (h : Hp) (r : ARes) : Option AV :=
  ARes.rec (motive := fun _ => Option AV) (fun p => some (EN.get p e)) (fun p => onPtr (EN.get p e) none (fun b o => Tr.get (asRow (hget h b)) o))
    (fun p n => onPtr (EN.get p e) none (fun b o => onOpt (readn (asRow (hget h b)) n o) none (fun l => some (.agg l)))) none r
noncomputable def resL (e : EN) (h : Hp) (l : List ARes) : Option (List AV) := List.rec (motive := fun _ => Option (List AV)) (some []) (fun r _ ih => onOpt (resA e h r) none (fun v => onOpt ih none (fun m => some (v :: m)))) l
noncomputable def packed (l : List AV) : AV := List.rec (motive := fun _ => AV) (.tup []) (fun x r _ => List.rec (motive := fun _ => AV) x (fun _ _ _ => .tup (x :: r)) r) l
noncomputable def argsE (l : List AV) : Pa → EN → EN := List.rec (motive := fun _ => Pa → EN → EN) (fun _ e => e) (fun x _ ih p e => ih (Pa.succ p) (EN.put p x e)) l
noncomputable def finish (F : AF) (k : K) (r : Res) : Res := Res.rec (motive := fun _ => Res) .no (fun e h => onOpt (resL e h F.results) .no (fun l => k (packed l) h)) (fun _ _ _ => .no) (fun e h => onOpt (resL e h F.results) .no (fun l => k (packed l) h)) r
noncomputable def callN (fns : FuncId → Option AF) (intr : FuncId → Option (CF → List AV → Hp → K → Res)) (n : Nat) : CF :=
  Nat.rec (motive := fun _ => CF) (fun _ _ _ _ => .no) (fun n ih f args h k => onOpt (intr f) (onOpt (fns f) .no (fun F => finish F k (F.body ih n (argsE args .z .nil) h))) (fun g => g ih args h k)) n
/-! ### from the program's code -/
section
variable (P : Program) (nt : Nat)
noncomputable def cV : Value → AV
  | .bool b => .bool b
  | .int k n => .int k n
  | .string s => .str (s.data.toList.map (·.toNat))
  | .slice none 0 0 => .nils
  | .map none => .nilm
  | .nilIface => .nili
  | .pointer none => .nilp
  | _ => .bad
noncomputable def cVs (v : Value) : AV := match v with
  | .agg cs => .agg (cs.toList.map cV)
  | v => cV v
noncomputable def cO : Operand → AO
  | .tmp i => if i < nt then t (paB 12 i) else c .bad
  | .const v => c (cVs v)
  | .global 0 => c (.ptr .z 0)
  | .global _ => c .bad
  | .func f => c (.fn f [] [])
def isAggB (ty : TypeId) : Bool := match P.underlying ty with | some (.struct _) | some (.array _ _) => true | _ => false
noncomputable def zeroL (ty : TypeId) : Option (List AV) := match P.info? ty with
  | some i => match i.zero with
    | some z => some (z.cells.toList.map cV)
    | none => none
  | none => none
noncomputable def cParts (place : Nat → Option (Nat × Nat)) : List (Nat × Operand) → Option (List (Nat × Nat × AO))
  | [] => some []
  | (i, x) :: r => match place i, cParts place r with
    | some (o, s), some r => some ((o, s, cO nt x) :: r)
    | _, _ => none
/-- types whose equality is that of their numbers -/
def flatB (ty : TypeId) : Bool := ty == 38 || ty == 122 || ty == 179
noncomputable def cEq (ty : TypeId) (x y : Operand) (neg : Bool) : AOp :=
  match P.underlying ty with
  | some (.int _) | some .string => if neg then oNe (cO nt x) (cO nt y) else oEq (cO nt x) (cO nt y)
  | some .bool => if neg then oNeB (cO nt x) (cO nt y) else oEqB (cO nt x) (cO nt y)
  | some (.array _ _) | some (.struct _) => if flatB ty then (if neg then oNeL (P.cellsOf ty) (cO nt x) (cO nt y) else oEqL (P.cellsOf ty) (cO nt x) (cO nt y)) else oStuck
  | some (.map _ _) => match y with
    | .const (.map none) => if neg then oStuck else oEqM (cO nt x)
    | _ => oStuck
  | some (.slice _) => match y with
    | .const (.slice none 0 0) => if neg then oStuck else oEqS (cO nt x)
    | _ => oStuck
  | _ => oStuck
noncomputable def cBin (op : BinOp) (ty : TypeId) (x y : Operand) : AOp :=
  match op with
  | .eql => cEq P nt ty x y false
  | .neq => cEq P nt ty x y true
  | .add => match P.underlying ty with
    | some .string => oCat (cO nt x) (cO nt y)
    | _ => oAdd (cO nt x) (cO nt y)
  | .sub => oSub (cO nt x) (cO nt y)
  | .mul => oMul (cO nt x) (cO nt y)
  | .quo => oQuo (cO nt x) (cO nt y)
  | .rem => oRem (cO nt x) (cO nt y)
  | .and => oAnd (cO nt x) (cO nt y)
  | .or => oOr (cO nt x) (cO nt y)
  | .shl => oShl (cO nt x) (cO nt y)
  | .shr => oShr (cO nt x) (cO nt y)
  | .lss => oLss (cO nt x) (cO nt y)
  | .leq => oLeq (cO nt x) (cO nt y)
  | .gtr => oGtr (cO nt x) (cO nt y)
  | .geq => oGeq (cO nt x) (cO nt y)
  | _ => oStuck
noncomputable def keyQ (ty : TypeId) : Option (AV → AV → Option Bool) := match P.underlying ty with
  | some (.int _) => some keqI
  | some .string => some keqS
  | some (.struct _) => if flatB ty then some (keqL (P.cellsOf ty)) else none
  | _ => none
noncomputable def cBuiltin (b : Builtin) (args : Array Operand) (tys : Array TypeId) : AOp :=
  match b, args.toList, tys.toList with
  | .len, [x], [ty] => match P.underlying ty with
    | some (.array n _) => oLenA n
    | some .string => oLenStr (cO nt x)
    | some (.slice _) => oLenSl (cO nt x)
    | some (.map _ _) => oLenM (cO nt x)
    | _ => oStuck
  | .cap, [x], [ty] => match P.underlying ty with
    | some (.slice _) => oCap (cO nt x)
    | _ => oStuck
  | .append, [s, x], [ty, uy] => match P.underlying ty with
    | some (.slice el) => match P.underlying uy with
      | some (.int _) => match zeroL P el with
        | some z => if P.bytesOf el ≤ 1000 && 1 ≤ P.bytesOf el && z.length == P.cellsOf el && 1 ≤ P.cellsOf el then oAppendZ (P.cellsOf el) z (cO nt s) (cO nt x) else oStuck
        | none => oStuck
      | some (.slice _) => if P.bytesOf el ≤ 1000 && 1 ≤ P.bytesOf el && (zeroL P el).any (fun z => z.length == P.cellsOf el) && 1 ≤ P.cellsOf el then oAppend0 (P.cellsOf el) (cO nt s) (cO nt x) else oStuck
      | _ => oStuck
    | _ => oStuck
  | _, _, _ => oStuck
noncomputable def cOp (o : Oper) : AOp :=
  match o.op with
  | .move x => oMov (cO nt x)
  | .assign x => oMov (cO nt x)
  | .pick q a b => oPick (cO nt q) (cO nt a) (cO nt b)
  | .alloc ty => match zeroL P ty with
    | some z => oAlloc (.row 0 z.length (trk z 0 .nil (fun _ tr => tr)))
    | none => oStuck
  | .box _ x => oBox (cO nt x)
  | .build ty ps => match zeroL P ty, P.underlying ty with
    | some z, some (.struct fs) => if fs.all (fun f => (P.info? f.type).isSome) then match cParts nt (fun i => (fs[i]?).map fun f => (f.offset, P.cellsOf f.type)) ps.toList with
      | some ps => oBuild z ps
      | none => oStuck
      else oStuck
    | some z, some (.array _ el) => if (P.info? el).isSome then match cParts nt (fun i => some (i * P.cellsOf el, P.cellsOf el)) ps.toList with
      | some ps => oBuild z ps
      | none => oStuck
      else oStuck
    | _, _ => oStuck
  | .buildSlice ty len ps => match P.underlying ty with
    | some (.slice el) => match zeroL P el, cParts nt (fun i => some (i * P.cellsOf el, P.cellsOf el)) ps.toList with
      | some z, some ps => if 1 ≤ P.cellsOf el && len * P.cellsOf el ≤ 1000 && z.length == P.cellsOf el then oBslice (P.cellsOf el) len (zeros z len) ps else oStuck
      | _, _ => oStuck
    | _ => oStuck
  | .load ty a => if (P.info? ty).isSome && (P.underlying ty).isSome then (if isAggB P ty then (if 0 < P.cellsOf ty then oLoadn (P.cellsOf ty) (cO nt a) else oStuck) else oLoad1 (cO nt a)) else oStuck
  | .store ty a x => if (P.info? ty).isSome then oStore (P.cellsOf ty) (cO nt a) (cO nt x) else oStuck
  | .nilCheck x => oNil (cO nt x)
  | .binOp op ty x y _ => cBin P nt op ty x y
  | .unOp .not _ x => oNot (cO nt x)
  | .unOp .xor _ x => oXor (cO nt x)
  | .convert s d x => match P.underlying s, P.underlying d with
    | some (.int _), some (.int k) => oConv k (cO nt x)
    | some (.slice el), some .string => match P.underlying el with
      | some (.int .u8) => oToStr (cO nt x)
      | _ => oStuck
    | _, _ => oStuck
  | .makeFunc (.func f) a q => oMkfn f (a.toList.map (cO nt)) (q.toList.map (cO nt))
  | .makeMap _ none => oMkmap
  | .makeSlice ty l q => match P.underlying ty with
    | some (.slice el) => match zeroL P el with
      | some z => if P.bytesOf el ≤ 1000 && z.length == P.cellsOf el && 1 ≤ P.cellsOf el then oMkslice (P.cellsOf el) z (cO nt l) (cO nt q) else oStuck
      | none => oStuck
    | _ => oStuck
  | .slice ty x lo hi none => match P.underlying ty with
    | some .string => oSliceS (cO nt x) (lo.map (cO nt)) (hi.map (cO nt))
    | some (.slice el) => if (P.info? el).isSome then oSlice (P.cellsOf el) (cO nt x) (lo.map (cO nt)) (hi.map (cO nt)) else oStuck
    | _ => oStuck
  | .fieldAddr s x f => match P.underlying s with
    | some (.struct fs) => match fs[f]? with
      | some f => if P.cellsOf f.type = 0 then oStuck else oFieldAddr (cO nt x) f.offset
      | none => oStuck
    | _ => oStuck
  | .indexAddr ty x i => match P.underlying ty with
    | some (.array n el) => if (P.info? el).isSome then oIndexA n (P.cellsOf el) (cO nt x) (cO nt i) else oStuck
    | some (.slice el) => if (P.info? el).isSome then oIndexS (P.cellsOf el) (cO nt x) (cO nt i) else oStuck
    | _ => oStuck
  | .index ty x i => match P.underlying ty with
    | some .string => oIndexStr (cO nt x) (cO nt i)
    | _ => oStuck
  | .lookup ty x i ok => match P.underlying ty with
    | some (.map kt el) => match P.info? el with
      | some inf => match inf.zero with
        | some z => match keyQ P kt with
          | some kq => oLookup kq (cVs z) (cO nt x) (cO nt i) ok
          | none => oStuck
        | none => oStuck
      | none => oStuck
    | _ => oStuck
  | .mapUpdate ty m x v => match P.underlying ty with
    | some (.map kt _) => match keyQ P kt with
      | some kq => oMapset kq (cO nt m) (cO nt x) (cO nt v)
      | none => oStuck
    | _ => oStuck
  | .insert ty m x v => match P.underlying ty with
    | some (.map kt _) => match keyQ P kt with
      | some kq => oMapset kq (cO nt m) (cO nt x) (cO nt v)
      | none => oStuck
    | _ => oStuck
  | .extract x i => oExtract (cO nt x) i
  | .call q => match q.callee with
    | .value (.func f) => oCallF f (q.args.toList.map (cO nt))
    | .value f => oCall (cO nt f) (q.args.toList.map (cO nt))
    | .builtin b => cBuiltin P nt b q.args q.argTypes
    | _ => oStuck
  | .defer q => match q.callee, q.args.toList with
    | .value f, [] => oDefer (cO nt f)
    | _, _ => oStuck
  | _ => oStuck
noncomputable def cIns (os : Array Oper) (o : Oper) (r : Step) : Step :=
  match o.guard with
  | none => match o.dst with
    | some d => I (paB 12 d) (cOp P nt o) r
    | none => I0 (cOp P nt o) r
  | some (j, w) => match os[j]? with
    | some oj => match oj.dst with
      | some g => if ¬ g < nt then sStuck else match o.dst with
        | some d => G (paB 12 g) w (paB 12 d) (cOp P nt o) r
        | none => G0 (paB 12 g) w (cOp P nt o) r
      | none => sStuck
    | none => sStuck
noncomputable def cList (os : Array Oper) : List Oper → Step
  | [] => sEnd
  | o :: r => cIns P nt os o (cList os r)
/-- the order that is walked: at a fork the first branch -/
def path : Sched → List (Nat × Bool)
  | .done => []
  | .hoist i r => (i, false) :: path r
  | .one i r => (i, true) :: path r
  | .two i r _ _ => (i, true) :: path r
  | .many _ _ => []
def forks : Sched → Bool
  | .done => false
  | .hoist _ r => forks r
  | .one _ r => forks r
  | .two _ _ _ _ => true
  | .many _ _ => true
def getAll (os : Array Oper) : List (Nat × Bool) → Option (List Oper)
  | [] => some []
  | p :: r => match os[p.1]?, getAll os r with
    | some o, some l => some (o :: l)
    | _, _ => none
def pureB : Op → Bool
  | .move _ | .assign _ | .pick .. | .nilCheck _ | .binOp .. | .unOp .. | .fieldAddr .. | .indexAddr .. | .extract .. | .build .. | .slice .. | .index .. => true
  | _ => false
/-- what a hoisted operation is: 'true': pure; 'false': a load -/
def hKind (o : Oper) : Option Bool :=
  match o.op with
  | .load .. => some false
  | .call q => match q.callee with
    | .builtin .len => match q.argTypes.toList with
      | [ty] => match P.underlying ty with
        | some (.array _ _) | some .string | some (.slice _) => some true
        | _ => none
      | _ => none
    | _ => none
  | .convert s d _ => match P.underlying s, P.underlying d with
    | some (.int _), some (.int _) => some true
    | _, _ => none
  | op => if pureB op then some true else none
/-- the pure ones of an order -/
def pures (os : Array Oper) (l : List (Nat × Bool)) (k : Nat) : Bool := l.any fun p => p.1 == k && !p.2 && (match os[k]? with | some o => hKind P o == some true | none => false)
def allLate (os : Array Oper) (pu : Nat → Bool) (l : List (Nat × Bool)) : Bool := l.all fun p => !p.2 || lateP os pu p.1
noncomputable def cKind (os : Array Oper) (pu : Nat → Bool) (i : Nat) (heavy : Bool) (o : Oper) : Option DK :=
  if heavy then some (if lateP os pu i then .late else .heavy) else
  match hKind P o with
  | none => none
  | some true => some .pure
  | some false => match o.op with
    | .load ty a => some (if isAggB P ty then .load (P.cellsOf ty) (cO nt a) else .load 1 (cO nt a))
    | _ => none
noncomputable def cDI (os : Array Oper) (pu : Nat → Bool) : List (Nat × Bool) → Option (List DI)
  | [] => some []
  | p :: r => match os[p.1]?, cDI os pu r with
    | some o, some l => match cKind P nt os pu p.1 p.2 o with
      | some k => match o.guard with
        | none => some (⟨p.1, o.dst.map (paB 12), none, k, cOp P nt o⟩ :: l)
        | some (j, w) => match os[j]? with
          | some oj => match oj.dst with
            | some g => if g < nt then some (⟨p.1, o.dst.map (paB 12), some (paB 12 g, w), k, cOp P nt o⟩ :: l) else none
            | none => none
          | none => none
      | none => none
    | _, _ => none
noncomputable def cDraw (os : Array Oper) (s : Sched) : Step :=
  if fastB os s then match cDI P nt os (pures P os (path s)) (path s) with
    | some l => if !forks s && allLate os (pures P os (path s)) (path s) then match getAll os (path s) with
        | some l => cList P nt os l
        | none => sStuck
      else sDraw l
    | none => sStuck
  else sStuck
noncomputable def cCode (sch : List (Nat × Sched)) : Code → Step
  | .skip => sEnd
  | .label _ => sEnd
  | .region id os draw => if draw then match sch.lookup id with
      | some s => cDraw P nt os s
      | none => sStuck
    else cList P nt os os.toList
  | .seq a b => sSeq (cCode sch a) (cCode sch b)
  | .cond q x y => sCond (cO nt q) (cCode sch x) (cCode sch y)
  | .block id b => sBlock id (cCode sch b)
  | .loop b => sLoop (cCode sch b)
  | .scope b => cCode sch b
  | .exit id => sExit id
  | .ret => sRet
  | _ => sStuck
noncomputable def cRes : ResultVar → ARes
  | .tmp i => if i < nt then .tmp (paB 12 i) else .stuck
  | .cell i ty => if i < nt then (if isAggB P ty then .celln (paB 12 i) (P.cellsOf ty) else .cell1 (paB 12 i)) else .stuck
noncomputable def cFunc (sch : List (Nat × Sched)) (f : Func) : AF := ⟨f.ntmps, f.results.toList.map (cRes P f.ntmps), match f.body with | some b => cCode P f.ntmps sch b | none => sStuck⟩
end
end Ev
end Go.Proofs.YtlgpacpebjechaaGreatDoor
/-
  The evaluator's data: slots, cells and blocks as finite maps; what a list laid in cells reads as.
-/
namespace Go.Proofs.YtlgpacpebjechaaGreatDoor
namespace Ev
/-! ### numbers of the two-letter system -/
def Pa.num : Pa → Nat
  | .z => 0
  | .l p => 2 * p.num + 1
  | .r p => 2 * p.num + 2
theorem num_inj : ∀ {p q : Pa}, p.num = q.num → p = q
  | .z, .z, _ => rfl
  | .z, .l q, h => by simp only [Pa.num] at h; omega
  | .z, .r q, h => by simp only [Pa.num] at h; omega
  | .l p, .z, h => by simp only [Pa.num] at h; omega
  | .r p, .z, h => by simp only [Pa.num] at h; omega
  | .l p, .l q, h => by simp only [Pa.num] at h; rw [num_inj (p := p) (q := q) (by omega)]
  | .r p, .r q, h => by simp only [Pa.num] at h; rw [num_inj (p := p) (q := q) (by omega)]
  | .l p, .r q, h => by simp only [Pa.num] at h; omega
  | .r p, .l q, h => by simp only [Pa.num] at h; omega
theorem num_succ : ∀ p : Pa, (Pa.succ p).num = p.num + 1
  | .z => rfl
  | .l p => by show 2 * p.num + 2 = _; simp only [Pa.num]
  | .r p => by show 2 * (Pa.succ p).num + 1 = _; rw [num_succ p]; simp only [Pa.num]; omega
theorem paB_succ (d n : Nat) : paB (d + 1) n = if n = 0 then .z else if n % 2 = 1 then .l (paB d (n / 2)) else .r (paB d (n / 2 - 1)) := by
  show Bool.rec (motive := fun _ => Pa) (Bool.rec (motive := fun _ => Pa) (.r (paB d (Nat.sub (Nat.shiftRight n 1) 1))) (.l (paB d (Nat.shiftRight n 1))) (Nat.beq (Nat.land n 1) 1)) .z (Nat.beq n 0) = _
  have h1 : Nat.shiftRight n 1 = n / 2 := Nat.shiftRight_eq_div_pow n 1
  have h2 : Nat.land n 1 = n % 2 := Nat.and_one_is_mod n
  rw [h1, h2]
  by_cases h : n = 0
  · subst h; rfl
  · rw [if_neg h]
    have h0 : Nat.beq n 0 = false := by cases n with | zero => exact absurd rfl h | succ n => rfl
    rw [h0]
    by_cases h3 : n % 2 = 1
    · rw [if_pos h3, h3]; rfl
    · rw [if_neg h3]
      have h4 : n % 2 = 0 := by omega
      rw [h4]; rfl
theorem num_paB : ∀ (d n : Nat), n < 2 ^ d → (paB d n).num = n
  | 0, n, h => by
    have : n = 0 := by simpa using h
    subst this; rfl
  | d + 1, n, h => by
    rw [paB_succ]
    rw [Nat.pow_succ] at h
    split
    · simp only [Pa.num]; omega
    · split
      · simp only [Pa.num]; rw [num_paB d (n / 2) (by omega)]; omega
      · simp only [Pa.num]; rw [num_paB d (n / 2 - 1) (by omega)]; omega
theorem paB_inj {d n m : Nat} (hn : n < 2 ^ d) (hm : m < 2 ^ d) (h : paB d n = paB d m) : n = m := by
  have := congrArg Pa.num h
  rwa [num_paB d n hn, num_paB d m hm] at this

/-! ### slots -/
theorem en_nil (p : Pa) : EN.get p .nil = .bad := by cases p <;> rfl
theorem en_same : ∀ (p : Pa) (e : EN) (x : AV), EN.get p (EN.put p x e) = x
  | .z, .nil, _ => rfl
  | .z, .node .., _ => rfl
  | .l p, .nil, x => en_same p .nil x
  | .l p, .node _ l _, x => en_same p l x
  | .r p, .nil, x => en_same p .nil x
  | .r p, .node _ _ r, x => en_same p r x
theorem en_other : ∀ (p q : Pa) (e : EN) (x : AV), p ≠ q → EN.get q (EN.put p x e) = EN.get q e
  | .z, .z, _, _, h => absurd rfl h
  | .z, .l q, .nil, _, _ => en_nil q
  | .z, .r q, .nil, _, _ => en_nil q
  | .z, .l q, .node .., _, _ => rfl
  | .z, .r q, .node .., _, _ => rfl
  | .l p, .z, .nil, _, _ => rfl
  | .l p, .z, .node .., _, _ => rfl
  | .r p, .z, .nil, _, _ => rfl
  | .r p, .z, .node .., _, _ => rfl
  | .l p, .l q, .nil, x, h => (en_other p q .nil x (fun e => h (by rw [e]))).trans (en_nil q)
  | .l p, .l q, .node _ l _, x, h => en_other p q l x (fun e => h (by rw [e]))
  | .r p, .r q, .nil, x, h => (en_other p q .nil x (fun e => h (by rw [e]))).trans (en_nil q)
  | .r p, .r q, .node _ _ r, x, h => en_other p q r x (fun e => h (by rw [e]))
  | .l p, .r q, .nil, _, _ => en_nil q
  | .l p, .r q, .node .., _, _ => rfl
  | .r p, .l q, .nil, _, _ => en_nil q
  | .r p, .l q, .node .., _, _ => rfl

/-! ### blocks -/
theorem ht_nil (p : Pa) : HT.get p .nil = .none := by cases p <;> rfl
theorem ht_same : ∀ (p : Pa) (e : HT) (x : Blk), HT.get p (HT.put p x e) = x
  | .z, .nil, _ => rfl
  | .z, .node .., _ => rfl
  | .l p, .nil, x => ht_same p .nil x
  | .l p, .node _ l _, x => ht_same p l x
  | .r p, .nil, x => ht_same p .nil x
  | .r p, .node _ _ r, x => ht_same p r x
theorem ht_other : ∀ (p q : Pa) (e : HT) (x : Blk), p ≠ q → HT.get q (HT.put p x e) = HT.get q e
  | .z, .z, _, _, h => absurd rfl h
  | .z, .l q, .nil, _, _ => ht_nil q
  | .z, .r q, .nil, _, _ => ht_nil q
  | .z, .l q, .node .., _, _ => rfl
  | .z, .r q, .node .., _, _ => rfl
  | .l p, .z, .nil, _, _ => rfl
  | .l p, .z, .node .., _, _ => rfl
  | .r p, .z, .nil, _, _ => rfl
  | .r p, .z, .node .., _, _ => rfl
  | .l p, .l q, .nil, x, h => (ht_other p q .nil x (fun e => h (by rw [e]))).trans (ht_nil q)
  | .l p, .l q, .node _ l _, x, h => ht_other p q l x (fun e => h (by rw [e]))
  | .r p, .r q, .nil, x, h => (ht_other p q .nil x (fun e => h (by rw [e]))).trans (ht_nil q)
  | .r p, .r q, .node _ _ r, x, h => ht_other p q r x (fun e => h (by rw [e]))
  | .l p, .r q, .nil, _, _ => ht_nil q
  | .l p, .r q, .node .., _, _ => rfl
  | .r p, .l q, .nil, _, _ => ht_nil q
  | .r p, .l q, .node .., _, _ => rfl
theorem hget_def (h : Hp) (b : Pa) : hget h b = HT.get b h.t := rfl
theorem hget_same (h : Hp) (b : Pa) (x : Blk) : hget (hput h b x) b = x := ht_same b h.t x
theorem hget_other (h : Hp) {b q : Pa} (x : Blk) (e : b ≠ q) : hget (hput h b x) q = hget h q := ht_other b q h.t x e

/-! ### cells -/
theorem tr_get_node (v : Option AV) (l r : Tr) (n : Nat) : Tr.get (.node v l r) n = if n = 0 then v else if n % 2 = 1 then Tr.get l (n / 2) else Tr.get r (n / 2 - 1) := by
  show Bool.rec (motive := fun _ => Option AV) (Bool.rec (motive := fun _ => Option AV) (Tr.get r (Nat.sub (Nat.shiftRight n 1) 1)) (Tr.get l (Nat.shiftRight n 1)) (Nat.beq (Nat.land n 1) 1)) v (Nat.beq n 0) = _
  have h1 : Nat.shiftRight n 1 = n / 2 := Nat.shiftRight_eq_div_pow n 1
  have h2 : Nat.land n 1 = n % 2 := Nat.and_one_is_mod n
  rw [h1, h2]
  by_cases h : n = 0
  · subst h; rfl
  · rw [if_neg h]
    have h0 : Nat.beq n 0 = false := by cases n with | zero => exact absurd rfl h | succ n => rfl
    rw [h0]
    by_cases h3 : n % 2 = 1
    · rw [if_pos h3, h3]; rfl
    · rw [if_neg h3]
      have h4 : n % 2 = 0 := by omega
      rw [h4]; rfl
theorem tr_get_nil (n : Nat) : Tr.get .nil n = none := rfl
theorem tr_put_succ (d : Nat) (t : Tr) (n : Nat) (x : AV) : Tr.put (d + 1) t n x =
    match t with
    | .nil => if n = 0 then .node (some x) .nil .nil else if n % 2 = 1 then .node none (Tr.put d .nil (n / 2) x) .nil else .node none .nil (Tr.put d .nil (n / 2 - 1) x)
    | .node v l r => if n = 0 then .node (some x) l r else if n % 2 = 1 then .node v (Tr.put d l (n / 2) x) r else .node v l (Tr.put d r (n / 2 - 1) x) := by
  have h1 : Nat.shiftRight n 1 = n / 2 := Nat.shiftRight_eq_div_pow n 1
  have h2 : Nat.land n 1 = n % 2 := Nat.and_one_is_mod n
  cases t with
  | nil =>
    show Bool.rec (motive := fun _ => Tr) (Bool.rec (motive := fun _ => Tr) (.node none .nil (Tr.put d .nil (Nat.sub (Nat.shiftRight n 1) 1) x)) (.node none (Tr.put d .nil (Nat.shiftRight n 1) x) .nil) (Nat.beq (Nat.land n 1) 1)) (.node (some x) .nil .nil) (Nat.beq n 0) = _
    rw [h1, h2]
    by_cases h : n = 0
    · subst h; rfl
    · have h0 : Nat.beq n 0 = false := by cases n with | zero => exact absurd rfl h | succ n => rfl
      simp only [h0, if_neg h]
      by_cases h3 : n % 2 = 1
      · rw [if_pos h3, h3]; rfl
      · rw [if_neg h3]
        have h4 : n % 2 = 0 := by omega
        rw [h4]; rfl
  | node v l r =>
    show Bool.rec (motive := fun _ => Tr) (Bool.rec (motive := fun _ => Tr) (.node v l (Tr.put d r (Nat.sub (Nat.shiftRight n 1) 1) x)) (.node v (Tr.put d l (Nat.shiftRight n 1) x) r) (Nat.beq (Nat.land n 1) 1)) (.node (some x) l r) (Nat.beq n 0) = _
    rw [h1, h2]
    by_cases h : n = 0
    · subst h; rfl
    · have h0 : Nat.beq n 0 = false := by cases n with | zero => exact absurd rfl h | succ n => rfl
      simp only [h0, if_neg h]
      by_cases h3 : n % 2 = 1
      · rw [if_pos h3, h3]; rfl
      · rw [if_neg h3]
        have h4 : n % 2 = 0 := by omega
        rw [h4]; rfl
theorem tr_put : ∀ (d : Nat) (t : Tr) (n m : Nat) (x u : AV), Tr.get (Tr.put d t n x) m = some u → m = n ∧ u = x ∨ m ≠ n ∧ Tr.get t m = some u
  | 0, _, _, _, _, _, h => by cases h
  | d + 1, t, n, m, x, u, h => by
    rw [tr_put_succ] at h
    cases t with
    | nil =>
      dsimp only at h
      by_cases h0 : n = 0
      · rw [if_pos h0, tr_get_node] at h
        by_cases hm : m = 0
        · rw [if_pos hm] at h; exact .inl ⟨by omega, (Option.some.inj h).symm⟩
        · rw [if_neg hm] at h; split at h <;> cases h
      · rw [if_neg h0] at h
        by_cases h1 : n % 2 = 1
        · rw [if_pos h1, tr_get_node] at h
          by_cases hm : m = 0
          · rw [if_pos hm] at h; cases h
          · rw [if_neg hm] at h
            split at h
            · rcases tr_put d .nil _ _ _ _ h with ⟨e, rfl⟩ | ⟨_, e⟩
              · exact .inl ⟨by omega, rfl⟩
              · cases e
            · cases h
        · rw [if_neg h1, tr_get_node] at h
          by_cases hm : m = 0
          · rw [if_pos hm] at h; cases h
          · rw [if_neg hm] at h
            split at h
            · cases h
            · rcases tr_put d .nil _ _ _ _ h with ⟨e, rfl⟩ | ⟨_, e⟩
              · exact .inl ⟨by omega, rfl⟩
              · cases e
    | node v l r =>
      dsimp only at h
      rw [tr_get_node]
      by_cases h0 : n = 0
      · rw [if_pos h0, tr_get_node] at h
        by_cases hm : m = 0
        · rw [if_pos hm] at h; exact .inl ⟨by omega, (Option.some.inj h).symm⟩
        · rw [if_neg hm] at h; exact .inr ⟨by omega, by rw [if_neg hm]; exact h⟩
      · rw [if_neg h0] at h
        by_cases h1 : n % 2 = 1
        · rw [if_pos h1, tr_get_node] at h
          by_cases hm : m = 0
          · rw [if_pos hm] at h ⊢; exact .inr ⟨by omega, h⟩
          · rw [if_neg hm] at h ⊢
            by_cases h2 : m % 2 = 1
            · rw [if_pos h2] at h ⊢
              rcases tr_put d l _ _ _ _ h with ⟨e, rfl⟩ | ⟨e, h3⟩
              · exact .inl ⟨by omega, rfl⟩
              · exact .inr ⟨by omega, h3⟩
            · rw [if_neg h2] at h ⊢; exact .inr ⟨by omega, h⟩
        · rw [if_neg h1, tr_get_node] at h
          by_cases hm : m = 0
          · rw [if_pos hm] at h ⊢; exact .inr ⟨by omega, h⟩
          · rw [if_neg hm] at h ⊢
            by_cases h2 : m % 2 = 1
            · rw [if_pos h2] at h ⊢; exact .inr ⟨by omega, h⟩
            · rw [if_neg h2] at h ⊢
              rcases tr_put d r _ _ _ _ h with ⟨e, rfl⟩ | ⟨e, h3⟩
              · exact .inl ⟨by omega, rfl⟩
              · exact .inr ⟨by omega, h3⟩

/-- a list laid from cell i on -/
noncomputable def laid (l : List AV) (i : Nat) (t : Tr) : Tr := trk l i t (fun _ t => t)
theorem trk_eq {β : Type} : ∀ (l : List AV) (i : Nat) (t : Tr) (k : Nat → Tr → β), trk l i t k = k (i + l.length) (laid l i t)
  | [], i, t, k => rfl
  | v :: l, i, t, k => by
    show trk l (Nat.succ i) (Tr.put 24 t i v) k = _
    rw [trk_eq l]
    show k (i + 1 + l.length) _ = k (i + (l.length + 1)) _
    rw [show i + 1 + l.length = i + (l.length + 1) by omega]
    rfl
theorem laid_get : ∀ (l : List AV) (i : Nat) (t : Tr) (m : Nat) (u : AV), Tr.get (laid l i t) m = some u → (i ≤ m ∧ l[m - i]? = some u) ∨ ((m < i ∨ i + l.length ≤ m) ∧ Tr.get t m = some u)
  | [], i, t, m, u, h => .inr ⟨by simp only [List.length_nil]; omega, h⟩
  | v :: l, i, t, m, u, h => by
    have h : Tr.get (laid l (i + 1) (Tr.put 24 t i v)) m = some u := h
    rcases laid_get l (i + 1) _ m u h with ⟨h1, h2⟩ | ⟨h1, h2⟩
    · refine .inl ⟨by omega, ?_⟩
      rw [show m - i = (m - (i + 1)) + 1 by omega, List.getElem?_cons_succ]
      exact h2
    · rcases tr_put _ _ _ _ _ _ h2 with ⟨rfl, rfl⟩ | ⟨h3, h4⟩
      · exact .inl ⟨Nat.le_refl _, by simp⟩
      · exact .inr ⟨by simp only [List.length_cons]; omega, h4⟩
theorem laid_nil {l : List AV} {m : Nat} {u : AV} (h : Tr.get (laid l 0 .nil) m = some u) : l[m]? = some u := by
  rcases laid_get l 0 .nil m u h with ⟨_, h⟩ | ⟨_, h⟩
  · exact h
  · cases h
theorem readn_eq : ∀ (t : Tr) (n o : Nat) (l : List AV), readn t n o = some l → l.length = n ∧ ∀ j u, l[j]? = some u → Tr.get t (o + j) = some u
  | t, 0, o, l, h => by
    have h : some [] = some l := h
    injection h with h
    subst h
    exact ⟨rfl, fun j u hj => by simp at hj⟩
  | t, n + 1, o, l, h => by
    have h : onOpt (Tr.get t o) none (fun v => onOpt (readn t n (o + 1)) none (fun l => some (v :: l))) = some l := h
    cases h1 : Tr.get t o with
    | none => rw [h1] at h; cases h
    | some v =>
      rw [h1] at h
      have h : onOpt (readn t n (o + 1)) none (fun l => some (v :: l)) = some l := h
      cases h2 : readn t n (o + 1) with
      | none => rw [h2] at h; cases h
      | some m =>
        rw [h2] at h
        have h : some (v :: m) = some l := h
        injection h with h
        subst h
        obtain ⟨e1, e2⟩ := readn_eq t n (o + 1) m h2
        refine ⟨by simp [e1], fun j u hj => ?_⟩
        cases j with
        | zero => simp only [List.getElem?_cons_zero, Option.some.injEq] at hj; subst hj; exact h1
        | succ j =>
          rw [List.getElem?_cons_succ] at hj
          rw [show o + (j + 1) = o + 1 + j by omega]
          exact e2 j u hj

/-! ### lists -/
theorem evs_eq : ∀ (l : List AO) (e : EN), evs l e = l.map (fun x => x e)
  | [], _ => rfl
  | x :: l, e => by show x e :: evs l e = _; rw [evs_eq l]; rfl
theorem app_eq : ∀ (l m : List AV), app l m = l ++ m
  | [], _ => rfl
  | x :: l, m => by show x :: app l m = _; rw [app_eq l]; rfl
theorem appN_eq : ∀ (l m : List Nat), appN l m = l ++ m
  | [], _ => rfl
  | x :: l, m => by show x :: appN l m = _; rw [appN_eq l]; rfl
theorem nth_eq : ∀ (l : List AV) (n : Nat), nth l n = l[n]?
  | [], _ => rfl
  | _x :: _l, 0 => rfl
  | _x :: l, n + 1 => nth_eq l n
theorem nthN_eq : ∀ (l : List Nat) (n : Nat), nthN l n = l[n]?
  | [], _ => rfl
  | _x :: _l, 0 => rfl
  | _x :: l, n + 1 => nthN_eq l n
theorem lenA_eq : ∀ (l : List AV), lenA l = l.length
  | [] => rfl
  | x :: l => by show Nat.succ (lenA l) = _; rw [lenA_eq l]; rfl
theorem lenN_eq : ∀ (l : List Nat), lenN l = l.length
  | [] => rfl
  | x :: l => by show Nat.succ (lenN l) = _; rw [lenN_eq l]; rfl
theorem lenE_eq : ∀ (l : List (AV × AV)), lenE l = l.length
  | [] => rfl
  | x :: l => by show Nat.succ (lenE l) = _; rw [lenE_eq l]; rfl
theorem setA_eq : ∀ (l : List AV) (x : AV) (n : Nat), setA l x n = l.set n x
  | [], _, _ => rfl
  | y :: l, x, 0 => rfl
  | y :: l, x, n + 1 => by show y :: setA l x n = _; rw [setA_eq l]; rfl
theorem setE_eq : ∀ (l : List (AV × AV)) (x : AV × AV) (n : Nat), setE l x n = l.set n x
  | [], _, _ => rfl
  | y :: l, x, 0 => rfl
  | y :: l, x, n + 1 => by show y :: setE l x n = _; rw [setE_eq l]; rfl
theorem snocE_eq : ∀ (l : List (AV × AV)) (x : AV × AV), snocE l x = l ++ [x]
  | [], _ => rfl
  | y :: l, x => by show y :: snocE l x = _; rw [snocE_eq l]; rfl
/-- a test passed -/
theorem iff_true {β : Type} {b : Bool} {no yes : β} (P : β → Prop) (hno : ¬ P no) (h : P (iff b no yes)) : b = true ∧ P yes := by
  cases b
  · exact absurd h hno
  · exact ⟨rfl, h⟩
theorem iff_and {a b : Bool} : iff a false b = (a && b) := by cases a <;> rfl
theorem iff_ite {β : Type} (b : Bool) (no yes : β) : iff b no yes = if b = true then yes else no := by cases b <;> rfl
theorem inot_eq (b : Bool) : inot b = !b := by cases b <;> rfl
theorem kbeq_eq : ∀ {a b : IntKind}, kbeq a b = true → a = b := by
  intro a b h
  cases a <;> cases b <;> first | rfl | cases h
theorem kbeq_self (a : IntKind) : kbeq a a = true := by cases a <;> rfl
theorem pbeq_eq : ∀ {a b : Pa}, pbeq a b = true → a = b
  | .z, .z, _ => rfl
  | .z, .l _, h => by cases h
  | .z, .r _, h => by cases h
  | .l _, .z, h => by cases h
  | .r _, .z, h => by cases h
  | .l p, .l q, h => by rw [pbeq_eq (a := p) (b := q) h]
  | .r p, .r q, h => by rw [pbeq_eq (a := p) (b := q) h]
  | .l _, .r _, h => by cases h
  | .r _, .l _, h => by cases h
end Ev
end Go.Proofs.YtlgpacpebjechaaGreatDoor
