/-
  Texts joined: Opening an argument that is a slice: it reads as a list; Opening hypergraphs, derivations and cases.
-/
import Derived.Test.YtajbmdjlfniofaaDoorBA
import Derived.Test.YtajbmdjlfniofaaDoorBD
import Derived.Deep.Slices
/-
  Opening an argument that is a slice: it reads as a list.
-/
namespace Go.Proofs.YtajbmdjlfniofaaDoor
open Go.ChangeShapes Go.WideShapes Go.ChangeAt Go.RowKit Go.Joins Go.Deep
theorem spot_none {w : World} {a : Addr} {v : Value} (h : w.cell? a = some v) : a = ⟨a.block, a.off, none⟩ := by
 obtain ⟨b, o, s⟩ := a
 cases s with
 | none => rfl
 | some s =>
  unfold World.cell? at h
  split at h <;> simp at h
theorem add_plain (b o k : Nat) : (⟨b, o, none⟩ : Addr).add k = ⟨b, o + k, none⟩ := by unfold Addr.add; split <;> simp_all
section
variable {H : Type} {enc : TypeId × Value → H} {P : Program} {w : World} {base : Nat} {held : Bool} {α : Type}
theorem open_sl {t e : TypeId} {sz : Nat} (f : α → List Value) (Q : α → Prop) (hz : 0 < sz) (ht : P.underlying t = some (.slice e)) (hc : P.cellsOf e = sz)
  (hp : ∀ fuel cs y, DataW.trod enc P w base (fun _ => true) held fuel e cs = some y → ∃ a, cs = f a ∧ Q a)
  {fuel : Nat} {cs : List Value} {x : DataW H × List MemPlace} (h : DataW.trod enc P w base (fun _ => true) held fuel t cs = some x) :
  ∃ (A : Option Addr) (n c : Nat) (l : List α), cs = [.slice A n c] ∧ l.length = n ∧ n ≤ c ∧ c ≤ maxLen ∧ RdS w A sz f l ∧ (∀ a ∈ l, Q a) ∧ ∃ es sp, (x.1 = .slice es sp ∧ es.length = n) ∨ (x.1 = .nil ∧ n = 0) := by
 rcases open_slice ht h with ⟨rfl, rfl⟩ | ⟨a, len, cap, m, n, D, Pl, rfl, hb, hl, hm, hmm, rfl, hx⟩
 ·
  exact ⟨none, 0, 0, [], rfl, rfl, Nat.le_refl _, Nat.zero_le _, RdS.nil, fun _ h => by simp at h, [], [], .inr ⟨rfl, rfl⟩⟩
 simp only [if_true] at hmm
 subst hmm
 have each : ∀ i, i < len → ∃ u : α, Q u ∧ ∀ j v, (f u)[j]? = some v → j < sz → w.cell? (a.add (i * sz + j)) = some v := by
  intro i hi
  obtain ⟨cs', h1, h2⟩ := hx i (by omega)
  obtain ⟨u, rfl, hQ⟩ := hp _ _ _ h2
  rw [hc] at h1
  obtain ⟨_, hlen, hcell⟩ := World.cells?_some h1
  refine ⟨u, hQ, fun j v hv hj => ?_⟩
  have := hcell j (by omega)
  rw [add_add] at this
  rw [this]
  have h3 := List.getElem?_eq_some_iff.1 hv
  obtain ⟨h4, h5⟩ := h3
  simp [hv]
 by_cases h0 : len = 0
 ·
  subst h0
  exact ⟨some a, 0, m, [], rfl, rfl, Nat.zero_le _, hm, RdS.nil, fun _ h => by simp at h, _, _, .inl ⟨rfl, by simp⟩⟩
 have hne : Nonempty α := let ⟨u, _⟩ := each 0 (by omega); ⟨u⟩
 have hi : Inhabited α := ⟨Classical.choice hne⟩
 obtain ⟨V, hV⟩ := choose_lt each
 have hsp : a = ⟨a.block, a.off, none⟩ := by
  obtain ⟨cs', h1, h2⟩ := hx 0 (by omega)
  rw [hc] at h1
  obtain ⟨_, hlen, hcell⟩ := World.cells?_some h1
  have := hcell 0 (by omega)
  rw [add_add] at this
  simp only [Nat.zero_mul, Nat.add_zero, Addr.add, if_true] at this
  rw [List.getElem?_eq_getElem (by omega)] at this
  exact spot_none this
 refine ⟨some a, len, m, (List.range len).map V, rfl, by simp, hl, hm, ?_, ?_, _, _, .inl ⟨rfl, by simp⟩⟩
 ·
  intro i u hu
  rw [List.getElem?_map] at hu
  obtain ⟨k, hk, rfl⟩ := Option.map_eq_some_iff.1 hu
  have hk2 := List.getElem?_eq_some_iff.1 hk
  obtain ⟨hk3, hk4⟩ := hk2
  simp at hk3 hk4
  subst hk4
  refine ⟨a.block, a.off, by rw [← hsp], fun j v hj hv => ?_⟩
  have := (hV i hk3).2 j v hv hj
  rw [hsp] at this
  rw [add_plain, ← Nat.add_assoc] at this; exact this
 ·
  intro u hu
  simp at hu
  obtain ⟨i, hi, rfl⟩ := hu
  exact (hV i hi).1
theorem rd1_of_S {f : α → Value} {A : Option Addr} {l : List α} (h : RdS w A 1 (fun a => [f a]) l) : Rd1 w A f l := by
 intro i a hi
 obtain ⟨b, o, e, hc⟩ := h i a hi
 have := hc 0 (f a) (by decide) rfl
 rw [Nat.mul_one, Nat.add_zero] at this
 exact ⟨b, o, e, this⟩
/-- of numbers -/
theorem open_is {t e : TypeId} {k : IntKind} (ht : P.underlying t = some (.slice e)) (he : P.underlying e = some (.int k)) (hc : P.cellsOf e = 1)
  {fuel : Nat} {cs : List Value} {x : DataW H × List MemPlace} (h : DataW.trod enc P w base (fun _ => true) held fuel t cs = some x) :
  ∃ (A : Option Addr) (n c : Nat) (l : List Int), cs = [.slice A n c] ∧ l.length = n ∧ n ≤ c ∧ c ≤ maxLen ∧ Rd1 w A (.int k ·) l ∧ (∀ a ∈ l, (Lit.int k a).wf = true) ∧ ∃ es sp, (x.1 = .slice es sp ∧ es.length = n) ∨ (x.1 = .nil ∧ n = 0) := by
 obtain ⟨A, n, c, l, h1, h2, h3, h4, h5, h6, h7⟩ := open_sl (fun a : Int => [.int k a]) (fun a => (Lit.int k a).wf = true) (by decide) ht hc (fun fuel cs y hy => by
  obtain ⟨a, e0, _, wa⟩ := DataW.trod_int he hy
  exact ⟨a, e0, wa⟩) h
 exact ⟨A, n, c, l, h1, h2, h3, h4, rd1_of_S h5, h6, h7⟩
end
end Go.Proofs.YtajbmdjlfniofaaDoor
/-
  Opening hypergraphs, derivations and cases.
-/
namespace Go.Proofs.YtajbmdjlfniofaaDoor
open Go.ChangeShapes Go.WideShapes Go.ChangeAt Go.RowKit Go.Joins Go.Deep
set_option maxRecDepth 4000
theorem cellsH : Tryd.prog.cellsOf 24 = 2 := by kernel_rfl
theorem cellsE : Tryd.prog.cellsOf 49 = 5 := by kernel_rfl
theorem cells1 : Tryd.prog.cellsOf 3 = 1 := by kernel_rfl
theorem cellsS : Tryd.prog.cellsOf 46 = 1 := by kernel_rfl
theorem cellsL : Tryd.prog.cellsOf 47 = 2 := by kernel_rfl
section
variable {H : Type} {enc : TypeId × Value → H} {P : Program} {w : World} {base : Nat} {held : Bool} {α : Type}
end
section
variable {H : Type} {enc : TypeId × Value → H} {W : World} {base : Nat} {held : Bool}
theorem open_edge (fuel : Nat) (cs : List Value) (y : DataW H × List MemPlace) (h : DataW.trod enc Tryd.prog W base (fun _ => true) held fuel 49 cs = some y) :
  ∃ a : EI, cs = encE a ∧ Rd1 W a.A (.int .i64 ·) a.t ∧ a.t.length ≤ maxLen := by
 obtain ⟨y0, y1, y2, y3, n, _, hl, h0, h1, h2, h3⟩ := trod_struct4 Tryd.underlying49 h
 rw [cellsE] at hl
 match cs, hl with
 | [v0, v1, v2, v3, v4], _ =>
  simp only [cells1, cellsS, cellsL, List.drop_zero, List.drop_succ_cons, List.take_succ_cons, List.take_zero] at h0 h1 h2 h3
  obtain ⟨a, e0, _, _⟩ := DataW.trod_int Tryd.underlying3 h0
  obtain ⟨A, m, c, l, e1, hlm, _, hc, hR, _⟩ := open_is Tryd.underlying46 Tryd.underlying3 cells1 h1
  obtain ⟨b, e2, _, _⟩ := DataW.trod_int Tryd.underlying3 h2
  obtain ⟨xs, q, _, _, _, _, h4⟩ := DataW.trod_array Tryd.underlying47 h3
  have k0 := h4 0 (by decide)
  have k1 := h4 1 (by decide)
  simp only [cells1, Nat.zero_mul, Nat.one_mul, List.drop_zero, List.drop_succ_cons, List.take_succ_cons, List.take_zero] at k0 k1
  rename_i hx2
  obtain ⟨u0, g0⟩ : ∃ u, xs[0]? = some u := ⟨_, List.getElem?_eq_getElem (by omega)⟩
  obtain ⟨u1, g1⟩ : ∃ u, xs[1]? = some u := ⟨_, List.getElem?_eq_getElem (by omega)⟩
  rw [g0] at k0
  rw [g1] at k1
  obtain ⟨l0, e3, _, _⟩ := DataW.trod_int Tryd.underlying3 k0
  obtain ⟨l1, e4, _, _⟩ := DataW.trod_int Tryd.underlying3 k1
  simp only [List.cons.injEq, and_true] at e0 e1 e2 e3 e4
  subst e0 e1 e2 e3 e4
  subst hlm
  exact ⟨⟨a, l, b, l0, l1, A, c⟩, rfl, hR, by simp only; omega⟩
theorem open_hg {v : Value} {d : DataW H} {p : List MemPlace} (hv1 : Value.okWide Tryd.prog W .any base 24 v) (h : DataW.Trod enc Tryd.prog W 0 (fun _ => true) true 24 v d p) :
  ∃ N A n c es, v = hv N A n c ∧ es.length = n ∧ n ≤ maxLen ∧ RdE W A es := by
 obtain ⟨c0, c1, y0, y1, m, rfl, rfl, rfl, hy0, hy1⟩ := open_agg2 Tryd.underlying24 (by kernel_rfl) cellsH hv1 h
 obtain ⟨a, e0, _, _⟩ := DataW.trod_int Tryd.underlying3 hy0
 obtain ⟨A, n, c, es, e1, hl, hnc, hc, hR, hQ, _⟩ := open_sl encE (fun a => Rd1 W a.A (.int .i64 ·) a.t ∧ a.t.length ≤ maxLen) (by decide) Tryd.underlying22 cellsE open_edge hy1
 simp only [List.cons.injEq, and_true] at e0 e1
 subst e0 e1
 exact ⟨a, A, n, c, es, rfl, hl, by omega, hR, hQ⟩
end
end Go.Proofs.YtajbmdjlfniofaaDoor
