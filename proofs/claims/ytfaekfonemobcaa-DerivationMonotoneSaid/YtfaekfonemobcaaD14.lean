/-
  Opening hypergraphs, derivations and cases.
-/
import Derived.Test.YtfaekfonemobcaaOpenS
import Derived.Test.YtfaekfonemobcaaD1
namespace Go.Proofs.Ytfaekfonemobcaa
open Go.ChangeShapes Go.WideShapes Go.ChangeAt Go.RowKit Go.Joins Go.Deep
theorem cellsH : Try.prog.cellsOf 24 = 2 := by kernel_rfl
theorem cellsE : Try.prog.cellsOf 49 = 5 := by kernel_rfl
theorem cellsEs : Try.prog.cellsOf 22 = 1 := by kernel_rfl
theorem cells1 : Try.prog.cellsOf 3 = 1 := by kernel_rfl
theorem cellsS : Try.prog.cellsOf 44 = 1 := by kernel_rfl
theorem cellsL : Try.prog.cellsOf 47 = 2 := by kernel_rfl
theorem cellsD : Try.prog.cellsOf 27 = 2 := by kernel_rfl
theorem cellsDs : Try.prog.cellsOf 25 = 1 := by kernel_rfl
section
variable {H : Type} {enc : TypeId × Value → H} {P : Program} {w : World} {base : Nat} {held : Bool} {α : Type}
/-- as open_sl; each element is read with less fuel -/
theorem open_slF {t e : TypeId} {sz : Nat} (f : α → List Value) (Q : α → Prop) (hz : 0 < sz) (ht : P.underlying t = some (.slice e)) (hc : P.cellsOf e = sz) {fuel : Nat}
    (hp : ∀ n cs y, n < fuel → DataW.trod enc P w base (fun _ => true) held n e cs = some y → ∃ a, cs = f a ∧ Q a)
    {cs : List Value} {x : DataW H × List MemPlace} (h : DataW.trod enc P w base (fun _ => true) held fuel t cs = some x) :
    ∃ (A : Option Addr) (n c : Nat) (l : List α), cs = [.slice A n c] ∧ l.length = n ∧ n ≤ c ∧ c ≤ maxLen ∧ RdS w A sz f l ∧ ∀ a ∈ l, Q a := by
  rcases DataW.trod_slice ht h with ⟨rfl, rfl⟩ | ⟨a, len, cap, elems, rest, n, rfl, rfl, _, hb, hl, hm, hlen, hel, _, _⟩
  · exact ⟨none, 0, 0, [], rfl, rfl, Nat.le_refl _, Nat.zero_le _, RdS.nil, fun _ h => by simp at h⟩
  have each : ∀ i, i < len → ∃ u : α, Q u ∧ ∀ j v, (f u)[j]? = some v → j < sz → w.cell? (a.add (i * sz + j)) = some v := by
    intro i hi
    have key := hel i hi
    rw [List.getElem?_eq_getElem (by omega)] at key
    obtain ⟨cs', h1, h2⟩ := Option.bind_eq_some_iff.1 key
    obtain ⟨u, rfl, hQ⟩ := hp n _ _ (by omega) h2
    rw [hc] at h1
    obtain ⟨_, hlen, hcell⟩ := World.cells?_some h1
    refine ⟨u, hQ, fun j v hv hj => ?_⟩
    have := hcell j (by omega)
    rw [add_add] at this
    rw [this]
    have h3 := List.getElem?_eq_some_iff.1 hv
    obtain ⟨h4, h5⟩ := h3
    simp [hv]
  by_cases h0 : len = 0
  · subst h0
    exact ⟨some a, 0, cap, [], rfl, rfl, Nat.zero_le _, hm, RdS.nil, fun _ h => by simp at h⟩
  have hne : Nonempty α := let ⟨u, _⟩ := each 0 (by omega); ⟨u⟩
  have hi : Inhabited α := ⟨Classical.choice hne⟩
  obtain ⟨V, hV⟩ := choose_lt each
  have hsp : a = ⟨a.block, a.off, none⟩ := by
    have key := hel 0 (by omega)
    rw [List.getElem?_eq_getElem (by omega)] at key
    obtain ⟨cs', h1, h2⟩ := Option.bind_eq_some_iff.1 key
    rw [hc] at h1
    obtain ⟨_, hlen, hcell⟩ := World.cells?_some h1
    have := hcell 0 (by omega)
    rw [add_add] at this
    simp only [Nat.zero_mul, Nat.add_zero, Addr.add, if_true] at this
    rw [List.getElem?_eq_getElem (by omega)] at this
    exact spot_none this
  refine ⟨some a, len, cap, (List.range len).map V, rfl, by simp, hl, hm, ?_, ?_⟩
  · intro i u hu
    rw [List.getElem?_map] at hu
    obtain ⟨k, hk, rfl⟩ := Option.map_eq_some_iff.1 hu
    have hk2 := List.getElem?_eq_some_iff.1 hk
    obtain ⟨hk3, hk4⟩ := hk2
    simp at hk3 hk4
    subst hk4
    refine ⟨a.block, a.off, by rw [← hsp], fun j v hj hv => ?_⟩
    have := (hV i hk3).2 j v hv hj
    rw [hsp] at this
    rw [add_plain, ← Nat.add_assoc] at this; exact this
  · intro u hu
    simp at hu
    obtain ⟨i, hi, rfl⟩ := hu
    exact (hV i hi).1
end
theorem array9 {α : Type} {cs : Array α} (h : cs.size = 9) : ∃ c0 c1 c2 c3 c4 c5 c6 c7 c8, cs = #[c0, c1, c2, c3, c4, c5, c6, c7, c8] := by
  obtain ⟨l⟩ := cs
  match l, h with
  | [c0, c1, c2, c3, c4, c5, c6, c7, c8], _ => exact ⟨c0, c1, c2, c3, c4, c5, c6, c7, c8, rfl⟩
section
variable {H : Type} {enc : TypeId × Value → H} {W : World} {base : Nat} {held : Bool}
theorem open_edge (fuel : Nat) (cs : List Value) (y : DataW H × List MemPlace) (h : DataW.trod enc Try.prog W base (fun _ => true) held fuel 49 cs = some y) :
    ∃ a : EI, cs = encE a ∧ Rd1 W a.A (.int .i64 ·) a.t ∧ a.t.length ≤ maxLen := by
  obtain ⟨y0, y1, y2, y3, n, _, hl, h0, h1, h2, h3⟩ := trod_struct4 Try.underlying49 h
  rw [cellsE] at hl
  match cs, hl with
  | [v0, v1, v2, v3, v4], _ =>
    simp only [cells1, cellsS, cellsL, List.drop_zero, List.drop_succ_cons, List.take_succ_cons, List.take_zero] at h0 h1 h2 h3
    obtain ⟨a, e0, _, _⟩ := DataW.trod_int Try.underlying3 h0
    obtain ⟨A, m, c, l, e1, hlm, _, hc, hR, _⟩ := open_is Try.underlying44 Try.underlying3 cells1 h1
    obtain ⟨b, e2, _, _⟩ := DataW.trod_int Try.underlying3 h2
    obtain ⟨xs, q, _, _, _, _, h4⟩ := DataW.trod_array Try.underlying47 h3
    have k0 := h4 0 (by decide)
    have k1 := h4 1 (by decide)
    simp only [cells1, Nat.zero_mul, Nat.one_mul, List.drop_zero, List.drop_succ_cons, List.take_succ_cons, List.take_zero] at k0 k1
    rename_i hx2
    obtain ⟨u0, g0⟩ : ∃ u, xs[0]? = some u := ⟨_, List.getElem?_eq_getElem (by omega)⟩
    obtain ⟨u1, g1⟩ : ∃ u, xs[1]? = some u := ⟨_, List.getElem?_eq_getElem (by omega)⟩
    rw [g0] at k0
    rw [g1] at k1
    obtain ⟨l0, e3, _, _⟩ := DataW.trod_int Try.underlying3 k0
    obtain ⟨l1, e4, _, _⟩ := DataW.trod_int Try.underlying3 k1
    simp only [List.cons.injEq, and_true] at e0 e1 e2 e3 e4
    subst e0 e1 e2 e3 e4
    subst hlm
    exact ⟨⟨a, l, b, l0, l1, A, c⟩, rfl, hR, by simp only; omega⟩
theorem open_hgT {fuel : Nat} {v0 v1 : Value} {y : DataW H × List MemPlace} (h : DataW.trod enc Try.prog W base (fun _ => true) held fuel 24 [v0, v1] = some y) :
    ∃ N A n c es, v0 = .int .i64 N ∧ v1 = .slice A n c ∧ es.length = n ∧ n ≤ maxLen ∧ RdE W A es := by
  obtain ⟨y0, y1, m, _, _, hy0, hy1⟩ := trod_struct2 Try.underlying24 h
  simp only [cells1, cellsEs, List.drop_zero, List.drop_succ_cons, List.take_succ_cons, List.take_zero] at hy0 hy1
  obtain ⟨a, e0, _, _⟩ := DataW.trod_int Try.underlying3 hy0
  obtain ⟨A, n, c, es, e1, hl, hnc, hc, hR, hQ, _⟩ := open_sl encE (fun a => Rd1 W a.A (.int .i64 ·) a.t ∧ a.t.length ≤ maxLen) (by decide) Try.underlying22 cellsE open_edge hy1
  simp only [List.cons.injEq, and_true] at e0 e1
  exact ⟨a, A, n, c, es, e0, e1, hl, by omega, hR, hQ⟩
theorem open_hg {v : Value} {d : DataW H} {p : List MemPlace} (hv1 : Value.okWide Try.prog W .any base 24 v) (h : DataW.Trod enc Try.prog W 0 (fun _ => true) true 24 v d p) :
    ∃ N A n c es, v = hv N A n c ∧ es.length = n ∧ n ≤ maxLen ∧ RdE W A es := by
  obtain ⟨c0, c1, y0, y1, m, rfl, rfl, rfl, hy0, hy1⟩ := open_agg2 Try.underlying24 (by kernel_rfl) cellsH hv1 h
  obtain ⟨a, e0, _, _⟩ := DataW.trod_int Try.underlying3 hy0
  obtain ⟨A, n, c, es, e1, hl, hnc, hc, hR, hQ, _⟩ := open_sl encE (fun a => Rd1 W a.A (.int .i64 ·) a.t ∧ a.t.length ≤ maxLen) (by decide) Try.underlying22 cellsE open_edge hy1
  simp only [List.cons.injEq, and_true] at e0 e1
  subst e0 e1
  exact ⟨a, A, n, c, es, rfl, hl, by omega, hR, hQ⟩
theorem open_der : ∀ (fuel : Nat) (cs : List Value) (y : DataW H × List MemPlace), DataW.trod enc Try.prog W base (fun _ => true) held fuel 27 cs = some y → ∃ d : DI, cs = encD d ∧ RdD W d ∧ d.k.length ≤ d.c ∧ d.c ≤ maxLen := by
  intro fuel
  induction fuel using Nat.strongRecOn with
  | ind fuel ih =>
    intro cs y h
    obtain ⟨xs, n, rfl, _, hl, hxl, hf⟩ := DataW.trod_struct Try.underlying27 h
    rw [cellsD] at hl
    match xs, hxl, cs, hl with
    | [y0, y1], _, [v0, v1], _ =>
      have h0 := hf 0 _ rfl
      have h1 := hf 1 _ rfl
      replace h0 : DataW.trod enc Try.prog W base (fun _ => true) held n 3 [v0] = some y0 := h0
      replace h1 : DataW.trod enc Try.prog W base (fun _ => true) held n 25 [v1] = some y1 := h1
      obtain ⟨a, e0, _, _⟩ := DataW.trod_int Try.underlying3 h0
      obtain ⟨A, m, c, l, e1, hlm, hmc, hc, hR, hQ⟩ := open_slF encD (RdD W) (by decide) Try.underlying25 cellsD (fun k cs y hk hh => let ⟨d, h1, h2, _⟩ := ih k (by omega) cs y hh; ⟨d, h1, h2⟩) h1
      simp only [List.cons.injEq, and_true] at e0 e1
      subst e0 e1
      subst hlm
      exact ⟨.node a A c l, rfl, .mk hR (by omega) hQ, hmc, hc⟩
end
abbrev xv (N : Int) (A : Option Addr) (n c : Nat) (root : Int) (a b d : DI) : Value := .agg #[.int .i64 N, .slice A n c, .int .i64 root, .int .i64 a.e, .slice a.A a.k.length a.c, .int .i64 b.e, .slice b.A b.k.length b.c, .int .i64 d.e, .slice d.A d.k.length d.c]
theorem cellsX : Try.prog.cellsOf 29 = 9 := by kernel_rfl
theorem open_case {H : Type} {enc : TypeId × Value → H} {W : World} {base : Nat} {v : Value} {d : DataW H} {p : List MemPlace} (hv1 : Value.okWide Try.prog W .any base 29 v) (h : DataW.Trod enc Try.prog W 0 (fun _ => true) true 29 v d p) :
    ∃ N A n c es root a b d, v = xv N A n c root a b d ∧ es.length = n ∧ n ≤ maxLen ∧ RdE W A es ∧ RdD W a ∧ RdD W b ∧ RdD W d ∧ a.k.length ≤ a.c ∧ a.c ≤ maxLen := by
  obtain ⟨cs, rfl, hsz⟩ := okWide_struct Try.underlying29 hv1
  obtain ⟨c0, c1, c2, c3, c4, c5, c6, c7, c8, rfl⟩ := array9 (hsz.trans cellsX)
  obtain ⟨fuel, hf⟩ := h
  obtain ⟨xs, n, rfl, _, hl, hxl, hg⟩ := DataW.trod_struct Try.underlying29 hf
  match xs, hxl with
  | [y0, y1, y2, y3, y4], _ =>
    have h0 := hg 0 _ rfl
    have h1 := hg 1 _ rfl
    have h2 := hg 2 _ rfl
    have h3 := hg 3 _ rfl
    have h4 := hg 4 _ rfl
    replace h0 : DataW.trod enc Try.prog W 0 (fun _ => true) true n 24 [c0, c1] = some y0 := h0
    replace h1 : DataW.trod enc Try.prog W 0 (fun _ => true) true n 3 [c2] = some y1 := h1
    replace h2 : DataW.trod enc Try.prog W 0 (fun _ => true) true n 27 [c3, c4] = some y2 := h2
    replace h3 : DataW.trod enc Try.prog W 0 (fun _ => true) true n 27 [c5, c6] = some y3 := h3
    replace h4 : DataW.trod enc Try.prog W 0 (fun _ => true) true n 27 [c7, c8] = some y4 := h4
    obtain ⟨N, A, m, c, es, e0, e1, hes, hm, hR⟩ := open_hgT h0
    obtain ⟨r, e2, _, _⟩ := DataW.trod_int Try.underlying3 h1
    obtain ⟨a, e3, ha, hc1, hc2⟩ := open_der _ _ _ h2
    obtain ⟨b, e4, hb, _⟩ := open_der _ _ _ h3
    obtain ⟨d, e5, hd, _⟩ := open_der _ _ _ h4
    replace e2 := (List.cons.inj e2).1
    simp only [encD, List.cons.injEq, and_true] at e3 e4 e5
    rw [e0, e1, e2, e3.1, e3.2, e4.1, e4.2, e5.1, e5.2]
    exact ⟨N, A, m, c, es, r, a, b, d, rfl, hes, hm, hR, ha, hb, hd, hc1, hc2⟩
end Go.Proofs.Ytfaekfonemobcaa
