/-
  The solver: how it lies in memory.
-/
import Derived.Test.YtleapckcihcpaaaK10
namespace Go.Proofs.Ytleapckcihcpaaa
open Go.RowKit Go.Deep PK
attribute [local go_sem] Oper.lit Oper.litS fut_fut fut_drew World.cell?_alloc_some
abbrev nv (x : Nat) : Value := .int .i64 (x : Int)
/-- the slice value v owns a row of numbers, xs, among the blocks from B on -/
abbrev Own (w : World) (B : Nat) (v : Value) (xs : List Nat) : Prop := w.ownsRow B 3 1 v xs.length (xs.map nv)
theorem own_futS {w w' : World} {S : Nat → Bool} {B sz n : Nat} {E : TypeId} {v : Value} {xs : List Value} (h : w.ownsRow B E sz v n xs) (hf : FutS S w w') (hS : ∀ g, v.ownBlock = some g → S g = false) : w'.ownsRow B E sz v n xs := by
  refine ⟨h.1, ?_⟩
  rcases h.2 with hn | ⟨g, cap, cur, rfl, hb, hg, rest⟩
  · exact .inl hn
  · exact .inr ⟨g, cap, cur, rfl, hb, (hf.block g (Array.getElem?_eq_some_iff.1 hg).1 (hS g rfl)).trans hg, rest⟩
/-- block u: a row of n slices, the i-th of which owns L i -/
structure Uses (w : World) (B u n : Nat) (U : Nat → Value) (L : Nat → List Nat) : Prop where
  row : w.rowIs u 25 n U
  lt : u < B
  own : ∀ i, i < n → Own w B (U i) (L i)
  sep : ∀ i j g, i < n → j < n → (U i).ownBlock = some g → (U j).ownBlock = some g → i = j
theorem Uses.futS {w w' : World} {S : Nat → Bool} {B u n : Nat} {U : Nat → Value} {L : Nat → List Nat} (h : Uses w B u n U L) (hf : FutS S w w') (hu : S u = false) (hS : ∀ i, i < n → ∀ g, (U i).ownBlock = some g → S g = false) : Uses w' B u n U L :=
  ⟨h.row.of_block (hf.block u h.row.lt hu), h.lt, fun i hi => own_futS (h.own i hi) hf (hS i hi), h.sep⟩
theorem rowIs_futS {w w' : World} {S : Nat → Bool} {b n : Nat} {t : TypeId} {f : Nat → Value} (h : w.rowIs b t n f) (hf : FutS S w w') (hS : S b = false) : w'.rowIs b t n f := h.of_block (hf.block b h.lt hS)
/-- the solver's blocks -/
structure SB where
  sb : Nat
  vb : Nat
  tb : Nat
  ob : Nat
  ub : Nat
  qb : Nat
  mb : Nat
  B : Nat
/-- they are different, and lie behind lo -/
structure SBok (s : SB) (lo : Nat) : Prop where
  lo : lo ≤ s.sb ∧ lo ≤ s.vb ∧ lo ≤ s.tb ∧ lo ≤ s.ob ∧ lo ≤ s.ub ∧ lo ≤ s.qb ∧ lo ≤ s.mb
  hi : s.sb < s.B ∧ s.vb < s.B ∧ s.tb < s.B ∧ s.ob < s.B ∧ s.ub < s.B ∧ s.qb < s.B ∧ s.mb < s.B
  n1 : s.sb ≠ s.vb ∧ s.sb ≠ s.tb ∧ s.sb ≠ s.ob ∧ s.sb ≠ s.ub ∧ s.sb ≠ s.qb ∧ s.sb ≠ s.mb
  n2 : s.vb ≠ s.tb ∧ s.vb ≠ s.ob ∧ s.vb ≠ s.ub ∧ s.vb ≠ s.qb ∧ s.vb ≠ s.mb
  n3 : s.tb ≠ s.ob ∧ s.tb ≠ s.ub ∧ s.tb ≠ s.qb ∧ s.tb ≠ s.mb
  n4 : s.ob ≠ s.ub ∧ s.ob ≠ s.qb ∧ s.ob ≠ s.mb
  n5 : s.ub ≠ s.qb ∧ s.ub ≠ s.mb ∧ s.qb ≠ s.mb
abbrev solverCells (s : SB) (N n : Nat) (A : Option Addr) (c : Nat) : Array Value := #[.int .i64 (N : Int), .slice A n c, .slice (some ⟨s.vb, 0, none⟩) N N, .slice (some ⟨s.tb, 0, none⟩) N N, .slice (some ⟨s.ob, 0, none⟩) n n, .slice (some ⟨s.ub, 0, none⟩) N N, .pointer (some ⟨s.qb, 0, none⟩)]
abbrev RowB (w : World) (b n : Nat) (T : Nat → Bool) : Prop := w.rowIs b 4 n (fun i => .bool (T i))
theorem RowB.set {w : World} {b n : Nat} {T : Nat → Bool} (h : RowB w b n T) (i : Nat) (x : Bool) : RowB (w.setCell ⟨b, i, none⟩ (.bool x)) b n (upd T i x) :=
  (World.rowIs.set h i _).congr (fun k _ => by
    unfold upd
    by_cases e : k = i <;> simp [e])
abbrev RowN (w : World) (b n : Nat) (O : Nat → Nat) : Prop := w.rowIs b 3 n (fun i => nv (O i))
theorem RowN.set {w : World} {b n : Nat} {O : Nat → Nat} (h : RowN w b n O) (i x : Nat) : RowN (w.setCell ⟨b, i, none⟩ (nv x)) b n (upd O i x) :=
  (World.rowIs.set h i _).congr (fun k _ => by
    unfold upd
    by_cases e : k = i <;> simp [e])
/-- the solver's state but for its queue -/
structure S1 (s : SB) (N n : Nat) (A : Option Addr) (c : Nat) (wr : World) (V : Nat → VV) (T : Nat → Bool) (O : Nat → Nat) (U : Nat → Value) (L : Nat → List Nat) : Prop where
  sv : Blk wr s.sb 79 (solverCells s N n A c)
  v : RowV wr s.vb N V
  t : RowB wr s.tb N T
  o : RowN wr s.ob n O
  u : Uses wr s.B s.ub N U L
section
variable {s : SB} {N n : Nat} {A : Option Addr} {c : Nat} {wr w2 : World} {V : Nat → VV} {T : Nat → Bool} {O : Nat → Nat} {U : Nat → Value} {L : Nat → List Nat} {lo : Nat} {S : Nat → Bool}
theorem S1.futS (h : S1 s N n A c wr V T O U L) (hf : FutS S wr w2) (h1 : S s.sb = false) (h2 : S s.vb = false) (h3 : S s.tb = false) (h4 : S s.ob = false) (h5 : S s.ub = false) (h6 : ∀ i, i < N → ∀ g, (U i).ownBlock = some g → S g = false) : S1 s N n A c w2 V T O U L :=
  ⟨h.sv.futS hf h1, rowIs_futS h.v hf h2, rowIs_futS h.t hf h3, rowIs_futS h.o hf h4, h.u.futS hf h5 h6⟩
theorem S1.go (h : S1 s N n A c wr V T O U L) (hf : Fut wr w2) : S1 s N n A c w2 V T O U L :=
  h.futS (S := fun _ => false) (FutS.of hf) rfl rfl rfl rfl rfl (fun _ _ _ _ => rfl)
/-- behind an operation of the queue -/
theorem S1.queue (h : S1 s N n A c wr V T O U L) (hb : SBok s lo) {v : Value} {H : Nat → EN} {m nx : Nat} (hq : QS wr s.qb s.mb s.B v H m nx) (hf : FutS (SQ s.qb s.mb v) wr w2) : S1 s N n A c w2 V T O U L := by
  have hv : ∀ k, k < s.B → v.ownBlock ≠ some k := fun k hk e => by have := (World.ownsRow.lt hq.own k e).1; omega
  have key : ∀ k, k < s.B → k ≠ s.qb → k ≠ s.mb → SQ s.qb s.mb v k = false := fun k h1 h2 h3 => by
    cases e : SQ s.qb s.mb v k with
    | false => rfl
    | true =>
      simp only [SQ, Bool.or_eq_true, beq_iff_eq] at e
      rcases e with (e | e) | e
      · exact absurd e h2
      · exact absurd e h3
      · exact absurd e (hv k h1)
  obtain ⟨_, hi, n1, n2, n3, n4, n5⟩ := hb
  refine h.futS hf (key _ (by omega) (by omega) (by omega)) (key _ (by omega) (by omega) (by omega)) (key _ (by omega) (by omega) (by omega)) (key _ (by omega) (by omega) (by omega)) (key _ (by omega) (by omega) (by omega)) (fun i hi9 g hg => ?_)
  have ho := h.u.own i hi9
  have hgB := (World.ownsRow.lt ho g hg).1
  cases e : SQ s.qb s.mb v g with
  | false => rfl
  | true =>
    exfalso
    simp only [SQ, Bool.or_eq_true, beq_iff_eq] at e
    rcases e with (e | e) | e
    · omega
    · omega
    · obtain ⟨_, hx | ⟨g1, _, _, hv1, _, hh1, _⟩⟩ := ho
      · rw [hx.1] at hg; simp [Value.ownBlock] at hg
      · obtain ⟨_, hy | ⟨g2, _, _, hv2, _, hh2, _⟩⟩ := hq.own
        · rw [hy.1] at e; simp [Value.ownBlock] at e
        · rw [hv1] at hg
          rw [hv2] at e
          simp only [Value.ownBlock, Option.some.injEq] at hg e
          subst hg
          subst e
          rw [hh1] at hh2
          simp at hh2
end
end Go.Proofs.Ytleapckcihcpaaa
