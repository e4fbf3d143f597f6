/-
  The solver with the row of chosen hyperedges and the hypergraph's own block.
-/
import Derived.Test.YtleapckcihcpaaaK13
import Derived.Test.YtleapckcihcpaaaPuse
namespace Go.Proofs.Ytleapckcihcpaaa
open Go.RowKit Go.Deep PK
attribute [local go_sem] Oper.lit Oper.litS fut_fut fut_drew World.cell?_alloc_some
/-- xb: the row of chosen hyperedges; hb: the hypergraph -/
structure XBok (s : SB) (lo xb hb : Nat) : Prop where
  sb : SBok s lo
  x : s.oth xb
  h : s.oth hb
  ne : xb ≠ hb
  lo : lo ≤ xb ∧ lo ≤ hb
structure TW (s : SB) (xb hb : Nat) (N n : Nat) (A : Option Addr) (c : Nat) (w0 wr : World) (V : Nat → VV) (T : Nat → Bool) (O : Nat → Nat) (U : Nat → Value) (L : Nat → List Nat) (v : Value) (H : Nat → EN) (m nx : Nat) (E : Nat → Int) : Prop where
  sw : SW (fun b => wr.heap[b]?) s N n A c w0 wr V T O U L v H m nx
  e : RowI wr xb N E
  h : Blk wr hb 54 #[.int .i64 (N : Int), .slice A n c]
section
variable {X : Nat → Option Obj} {s : SB} {xb hb N n : Nat} {A : Option Addr} {c : Nat} {w0 wr w2 : World} {V V' : Nat → VV} {T T' : Nat → Bool} {O O' : Nat → Nat} {U U' : Nat → Value} {L L' : Nat → List Nat} {v v' : Value} {H H' : Nat → EN} {m nx m' nx' : Nat} {E : Nat → Int}
theorem SW.re (h : SW X s N n A c w0 wr V T O U L v H m nx) : SW (fun b => wr.heap[b]?) s N n A c w0 wr V T O U L v H m nx := ⟨h.s1, h.q, h.h, h.f, fun _ _ => rfl⟩
/-- the solver has gone on, the other blocks are as they were -/
theorem TW.on (h : TW s xb hb N n A c w0 wr V T O U L v H m nx E) (hx : XBok s w0.heap.size xb hb) (k : SW (fun b => wr.heap[b]?) s N n A c w0 w2 V' T' O' U' L' v' H' m' nx') : TW s xb hb N n A c w0 w2 V' T' O' U' L' v' H' m' nx' E :=
  ⟨k.re, h.e.of_block (k.kp xb hx.x), by
    have := k.kp hb hx.h
    unfold Blk at *
    exact this.trans h.h⟩
theorem TW.go (h : TW s xb hb N n A c w0 wr V T O U L v H m nx E) (hx : XBok s w0.heap.size xb hb) (hf : Fut wr w2) : TW s xb hb N n A c w0 w2 V T O U L v H m nx E := h.on hx (h.sw.go hf)
/-- a hyperedge is noted -/
theorem TW.setE (h : TW s xb hb N n A c w0 wr V T O U L v H m nx E) (hx : XBok s w0.heap.size xb hb) (i : Nat) (x : Int) : TW s xb hb N n A c w0 (wr.setCell ⟨xb, i, none⟩ (.int .i64 x)) V T O U L v H m nx (upd E i x) := by
  obtain ⟨k1, k2, k3, k4, k5, k6, k7, k8⟩ := hx.x
  refine ⟨⟨⟨h.sw.s1.sv.setOther (a := ⟨xb, i, none⟩) (Ne.symm k2) _, World.rowIs.setOther h.sw.s1.v (a := ⟨xb, i, none⟩) (Ne.symm k3) _, World.rowIs.setOther h.sw.s1.t (a := ⟨xb, i, none⟩) (Ne.symm k4) _, World.rowIs.setOther h.sw.s1.o (a := ⟨xb, i, none⟩) (Ne.symm k5) _, h.sw.s1.u.setO (a := ⟨xb, i, none⟩) k1 k6 _⟩, h.sw.q.setO hx.sb (a := ⟨xb, i, none⟩) k1 k7 k8 _, h.sw.h, h.sw.f.setCell (p := ⟨xb, i, none⟩) hx.lo.1 _, fun _ _ => rfl⟩, RowI.set h.e i x, h.h.setOther (a := ⟨xb, i, none⟩) (Ne.symm hx.ne) _⟩
/-- a use has been noted -/
theorem TW.push (h : TW s xb hb N n A c w0 wr V T O U L v H m nx E) (hx : XBok s w0.heap.size xb hb) {t x g cp : Nat} (ht : t < N) (ho : w2.ownsRow s.B 3 1 (.slice (some ⟨g, 0, none⟩) ((L t).length + 1) cp) ((L t).length + 1) ((L t).map nv ++ [nv x])) (hg : wr.grownBy w2 (U t).ownBlock) (hw : (U t).ownBlock = some g ∨ g = wr.heap.size) :
    TW s xb hb N n A c w0 (w2.setCell ⟨s.ub, t, none⟩ (.slice (some ⟨g, 0, none⟩) ((L t).length + 1) cp)) V T O (upd U t (.slice (some ⟨g, 0, none⟩) ((L t).length + 1) cp)) (upd L t (L t ++ [x])) v H m nx E := by
  have hsb := hx.sb
  obtain ⟨hlo, hhi, n1, n2, n3, n4, n5⟩ := hx.sb
  have hlt := World.ownsRow.lt (h.sw.s1.u.own t ht)
  have hne : ∀ k, k < s.B → some k ≠ (U t).ownBlock := fun k hk e => by have := (hlt k e.symm).1; omega
  have hbl : ∀ k, k < s.B → w2.heap[k]? = wr.heap[k]? := fun k hk => hg.block k (Nat.lt_of_lt_of_le hk h.sw.q.sz) (hne k hk)
  have hother : ∀ i, i < N → i ≠ t → ∀ k, (U i).ownBlock = some k → k ≠ g := by
    intro i hi hne9 k hk
    rcases hw with hw | hw
    · intro e; subst e; exact hne9 (h.sw.s1.u.sep i t k hi ht hk hw)
    · have := (World.ownsRow.lt (h.sw.s1.u.own i hi) k hk).2
      omega
  have hrow : w2.rowIs s.ub 25 N U := h.sw.s1.u.row.of_block (hbl _ hhi.2.2.2.2.1)
  have hgt : s.B ≤ g := (World.ownsRow.lt ho g rfl).1
  have huse : Uses (w2.setCell ⟨s.ub, t, none⟩ (.slice (some ⟨g, 0, none⟩) ((L t).length + 1) cp)) s.B s.ub N (upd U t (.slice (some ⟨g, 0, none⟩) ((L t).length + 1) cp)) (upd L t (L t ++ [x])) := by
    have hset : ∀ (u : Value) (xs : List Nat), Own w2 s.B u xs → Own (w2.setCell ⟨s.ub, t, none⟩ (.slice (some ⟨g, 0, none⟩) ((L t).length + 1) cp)) s.B u xs := fun u xs h9 =>
      own_futS (S := fun k => k == s.ub) h9 (futS_set _ _ _ (by simp)) (fun k hk => by have := (World.ownsRow.lt h9 k hk).1; simp; omega)
    refine ⟨?_, h.sw.s1.u.lt, fun i hi => ?_, fun i j k hi hj h1 h2 => ?_⟩
    · refine (hrow.set t _).congr (fun i hi => ?_)
      simp only [upd]
    · by_cases e : i = t
      · subst e
        rw [upd_same, upd_same]
        refine hset _ _ ?_
        show w2.ownsRow s.B 3 1 _ (L i ++ [x]).length ((L i ++ [x]).map nv)
        rw [List.length_append, List.map_append]
        exact ho
      · rw [upd_other _ _ _ _ e, upd_other _ _ _ _ e]
        refine hset _ _ (World.ownsRow.kept (h.sw.s1.u.own i hi) hg ?_)
        cases hv : (U i).ownBlock with
        | none => exact .inl rfl
        | some k =>
          right
          intro e2
          exact e (h.sw.s1.u.sep i t k hi ht hv e2.symm)
    · by_cases ei : i = t <;> by_cases ej : j = t
      · rw [ei, ej]
      · subst ei
        rw [upd_same] at h1
        rw [upd_other _ _ _ _ ej] at h2
        simp only [Value.ownBlock, Option.some.injEq] at h1
        exact absurd h1.symm (hother j hj ej k h2)
      · subst ej
        rw [upd_same] at h2
        rw [upd_other _ _ _ _ ei] at h1
        simp only [Value.ownBlock, Option.some.injEq] at h2
        exact absurd h2.symm (hother i hi ei k h1)
      · rw [upd_other _ _ _ _ ei] at h1
        rw [upd_other _ _ _ _ ej] at h2
        exact h.sw.s1.u.sep i j k hi hj h1 h2
  have hq2 : QS w2 s.qb s.mb s.B v H m nx := by
    have hq := h.sw.q
    refine ⟨hq.q.grown hg (hne _ hhi.2.2.2.2.2.1), hq.mp.of_block (hbl _ hhi.2.2.2.2.2.2), World.ownsRow.kept hq.own hg ?_, hq.qB, hq.mB, Nat.le_trans hq.sz hg.size, hq.hd, hq.nx1, hq.mx⟩
    cases hv : v.ownBlock with
    | none => exact .inl rfl
    | some k =>
      right
      intro e2
      obtain ⟨_, hy | ⟨g1, _, _, hv1, _, hh1, _⟩⟩ := h.sw.s1.u.own t ht
      · rw [hy.1] at e2; simp [Value.ownBlock] at e2
      · obtain ⟨_, hz | ⟨g2, _, _, hv2, _, hh2, _⟩⟩ := hq.own
        · rw [hz.1] at hv; simp [Value.ownBlock] at hv
        · rw [hv1] at e2
          rw [hv2] at hv
          simp only [Value.ownBlock, Option.some.injEq] at hv e2
          subst hv
          subst e2
          rw [hh1] at hh2
          simp at hh2
  have hf2 : Fut w0 w2 := Below.grown h.sw.f hg (Nat.le_trans (by omega) h.sw.q.sz) (fun q hq => by have := (hlt q hq).1; omega)
  exact ⟨⟨⟨(h.sw.s1.sv.grown hg (hne _ hhi.1)).setOther (a := ⟨s.ub, t, none⟩) n1.2.2.2.1 _, World.rowIs.setOther (h.sw.s1.v.of_block (hbl _ hhi.2.1)) (a := ⟨s.ub, t, none⟩) n2.2.2.1 _, World.rowIs.setOther (h.sw.s1.t.of_block (hbl _ hhi.2.2.1)) (a := ⟨s.ub, t, none⟩) n3.2.1 _, World.rowIs.setOther (h.sw.s1.o.of_block (hbl _ hhi.2.2.2.1)) (a := ⟨s.ub, t, none⟩) n4.1 _, huse⟩,
    hq2.setO hsb (a := ⟨s.ub, t, none⟩) hhi.2.2.2.2.1 n5.1 n5.2.1 _, h.sw.h, hf2.setCell (p := ⟨s.ub, t, none⟩) hlo.2.2.2.2.1 _, fun _ _ => rfl⟩,
    World.rowIs.setOther (h.e.of_block (hbl _ hx.x.1)) (a := ⟨s.ub, t, none⟩) hx.x.2.2.2.2.2.1 _, (h.h.grown hg (hne _ hx.h.1)).setOther (a := ⟨s.ub, t, none⟩) hx.h.2.2.2.2.2.1 _⟩
theorem TW.as {W : Nat → VV} {F : Nat → Int} (h : TW s xb hb N n A c w0 wr V T O U L v H m nx E) (hV : ∀ i, i < N → V i = W i) (hE : ∀ i, i < N → E i = F i) : TW s xb hb N n A c w0 wr W T O U L v H m nx F :=
  ⟨⟨⟨h.sw.s1.sv, h.sw.s1.v.congr' hV, h.sw.s1.t, h.sw.s1.o, h.sw.s1.u⟩, h.sw.q, h.sw.h, h.sw.f, h.sw.kp⟩, h.e.congr' hE, h.h⟩
end
end Go.Proofs.Ytleapckcihcpaaa
