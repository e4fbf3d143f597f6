/-
  Opening a hypergraph.
-/
import Derived.Test.YtjoejkfchnooaaaOpenS
import Derived.Test.YtjoejkfchnooaaaHyp
namespace Go.Proofs.Ytjoejkfchnooaaa
open Go.ChangeShapes Go.WideShapes Go.ChangeAt Go.RowKit Go.Joins
theorem cellsH : Try.prog.cellsOf 24 = 2 := by kernel_rfl
theorem cellsE : Try.prog.cellsOf 39 = 5 := by kernel_rfl
theorem cells1 : Try.prog.cellsOf 3 = 1 := by kernel_rfl
theorem cellsS : Try.prog.cellsOf 32 = 1 := by kernel_rfl
theorem cellsL : Try.prog.cellsOf 37 = 2 := by kernel_rfl
section
variable {H : Type} {enc : TypeId × Value → H} {W : World} {base : Nat} {held : Bool}
theorem open_edge (fuel : Nat) (cs : List Value) (y : DataW H × List MemPlace) (h : DataW.trod enc Try.prog W base (fun _ => true) held fuel 39 cs = some y) :
    ∃ a : EI, cs = encE a ∧ Rd1 W a.A (.int .i64 ·) a.t ∧ a.t.length ≤ maxLen := by
  obtain ⟨y0, y1, y2, y3, n, _, hl, h0, h1, h2, h3⟩ := trod_struct4 Try.underlying39 h
  rw [cellsE] at hl
  match cs, hl with
  | [v0, v1, v2, v3, v4], _ =>
    simp only [cells1, cellsS, cellsL, List.drop_zero, List.drop_succ_cons, List.take_succ_cons, List.take_zero] at h0 h1 h2 h3
    obtain ⟨a, e0, _, _⟩ := DataW.trod_int Try.underlying3 h0
    obtain ⟨A, m, c, l, e1, hlm, _, hc, hR, _⟩ := open_is Try.underlying32 Try.underlying3 cells1 h1
    obtain ⟨b, e2, _, _⟩ := DataW.trod_int Try.underlying3 h2
    obtain ⟨xs, q, _, _, _, _, h4⟩ := DataW.trod_array Try.underlying37 h3
    have k0 := h4 0 (by decide)
    have k1 := h4 1 (by decide)
    simp only [cells1, Nat.zero_mul, Nat.one_mul, List.drop_zero, List.drop_succ_cons, List.take_succ_cons, List.take_zero] at k0 k1
    rename_i hx2
    obtain ⟨u0, g0⟩ : ∃ u, xs[0]? = some u := ⟨_, List.getElem?_eq_getElem (by omega)⟩
    obtain ⟨u1, g1⟩ : ∃ u, xs[1]? = some u := ⟨_, List.getElem?_eq_getElem (by omega)⟩
    rw [g0] at k0
    rw [g1] at k1
    obtain ⟨l0, e3, _, _⟩ := DataW.trod_int Try.underlying3 k0
    obtain ⟨l1, e4, _, _⟩ := DataW.trod_int Try.underlying3 k1
    simp only [List.cons.injEq, and_true] at e0 e1 e2 e3 e4
    subst e0 e1 e2 e3 e4
    subst hlm
    exact ⟨⟨a, l, b, l0, l1, A, c⟩, rfl, hR, by simp only; omega⟩
theorem open_hg {v : Value} {d : DataW H} {p : List MemPlace} (hv1 : Value.okWide Try.prog W .any base 24 v) (h : DataW.Trod enc Try.prog W 0 (fun _ => true) true 24 v d p) :
    ∃ N A n c es, v = hv N A n c ∧ es.length = n ∧ n ≤ maxLen ∧ RdE W A es := by
  obtain ⟨c0, c1, y0, y1, m, rfl, rfl, rfl, hy0, hy1⟩ := open_agg2 Try.underlying24 (by kernel_rfl) cellsH hv1 h
  obtain ⟨a, e0, _, _⟩ := DataW.trod_int Try.underlying3 hy0
  obtain ⟨A, n, c, es, e1, hl, hnc, hc, hR, hQ, _⟩ := open_sl encE (fun a => Rd1 W a.A (.int .i64 ·) a.t ∧ a.t.length ≤ maxLen) (by decide) Try.underlying22 cellsE open_edge hy1
  simp only [List.cons.injEq, and_true] at e0 e1
  subst e0 e1
  exact ⟨a, A, n, c, es, rfl, hl, by omega, hR, hQ⟩
end
end Go.Proofs.Ytjoejkfchnooaaa
