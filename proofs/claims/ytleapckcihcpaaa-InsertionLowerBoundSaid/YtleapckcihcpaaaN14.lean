/-
  Opening grammars, prices and parses.
-/
import Derived.Test.YtleapckcihcpaaaOpenS
import Derived.Test.YtleapckcihcpaaaN1
import Derived.Test.YtleapckcihcpaaaD0
namespace Go.Proofs.Ytleapckcihcpaaa
open Go.ChangeShapes Go.WideShapes Go.ChangeAt Go.RowKit Go.Joins Go.Deep PK
theorem cells1 : Try.prog.cellsOf 3 = 1 := by kernel_rfl
theorem cellsR : Try.prog.cellsOf 47 = 6 := by kernel_rfl
theorem cellsRs : Try.prog.cellsOf 22 = 1 := by kernel_rfl
theorem cellsNm : Try.prog.cellsOf 24 = 4 := by kernel_rfl
theorem cellsP : Try.prog.cellsOf 33 = 2 := by kernel_rfl
section
variable {H : Type} {enc : TypeId × Value → H} {W : World} {base : Nat} {held : Bool}
set_option maxRecDepth 20000 in
theorem open_rule (fuel : Nat) (cs : List Value) (y : DataW H × List MemPlace) (h : DataW.trod enc Try.prog W base (fun _ => true) held fuel 47 cs = some y) :
    ∃ a : NR, cs = encR a ∧ True := by
  obtain ⟨xs, n, rfl, _, hl, hxl, hf⟩ := DataW.trod_struct Try.underlying47 h
  rw [cellsR] at hl
  match xs, hxl, cs, hl with
  | [y0, y1, y2, y3, y4, y5], _, [v0, v1, v2, v3, v4, v5], _ =>
    have h0 : DataW.trod enc Try.prog W base (fun _ => true) held n 3 [v0] = some y0 := hf 0 _ rfl
    have h1 : DataW.trod enc Try.prog W base (fun _ => true) held n 3 [v1] = some y1 := hf 1 _ rfl
    have h2 : DataW.trod enc Try.prog W base (fun _ => true) held n 3 [v2] = some y2 := hf 2 _ rfl
    have h3 : DataW.trod enc Try.prog W base (fun _ => true) held n 3 [v3] = some y3 := hf 3 _ rfl
    have h4 : DataW.trod enc Try.prog W base (fun _ => true) held n 3 [v4] = some y4 := hf 4 _ rfl
    have h5 : DataW.trod enc Try.prog W base (fun _ => true) held n 3 [v5] = some y5 := hf 5 _ rfl
    obtain ⟨a0, e0, _, _⟩ := DataW.trod_int Try.underlying3 h0
    obtain ⟨a1, e1, _, _⟩ := DataW.trod_int Try.underlying3 h1
    obtain ⟨a2, e2, _, _⟩ := DataW.trod_int Try.underlying3 h2
    obtain ⟨a3, e3, _, _⟩ := DataW.trod_int Try.underlying3 h3
    obtain ⟨a4, e4, _, _⟩ := DataW.trod_int Try.underlying3 h4
    obtain ⟨a5, e5, _, _⟩ := DataW.trod_int Try.underlying3 h5
    simp only [List.cons.injEq, and_true] at e0 e1 e2 e3 e4 e5
    subst e0 e1 e2 e3 e4 e5
    exact ⟨⟨a0, a1, a2, a3, a4, a5⟩, rfl, trivial⟩
set_option maxRecDepth 20000 in
theorem open_norm {v : Value} {d : DataW H} {p : List MemPlace} (hv1 : Value.okWide Try.prog W .any base 24 v) (h : DataW.Trod enc Try.prog W 0 (fun _ => true) true 24 v d p) :
    ∃ T N st A n c rs, v = nmv T N st A n c ∧ rs.length = n ∧ n ≤ maxLen ∧ RdN W A rs := by
  obtain ⟨c0, c1, c2, c3, y0, y1, y2, y3, m, rfl, rfl, rfl, hy0, hy1, hy2, hy3⟩ := open_agg4 Try.underlying24 (by kernel_rfl) cellsNm hv1 h
  obtain ⟨a0, e0, _, _⟩ := DataW.trod_int Try.underlying3 hy0
  obtain ⟨a1, e1, _, _⟩ := DataW.trod_int Try.underlying3 hy1
  obtain ⟨a2, e2, _, _⟩ := DataW.trod_int Try.underlying3 hy2
  obtain ⟨A, n, c, rs, e3, hl, hnc, hc, hR, hQ, _⟩ := open_sl encR (fun _ => True) (by decide) Try.underlying22 cellsR open_rule hy3
  simp only [List.cons.injEq, and_true] at e0 e1 e2 e3
  subst e0 e1 e2 e3
  exact ⟨a0, a1, a2, A, n, c, rs, rfl, hl, by omega, hR⟩
set_option maxRecDepth 20000 in
theorem open_ints {v : Value} {d : DataW H} {p : List MemPlace} (hv1 : Value.okWide Try.prog W .any base 25 v) (h : DataW.Trod enc Try.prog W 0 (fun _ => true) true 25 v d p) :
    ∃ B m e l, v = .slice B m e ∧ l.length = m ∧ m ≤ maxLen ∧ Rd1 W B (.int .i64 ·) l := by
  obtain ⟨B, m, e, fu, rfl, hf⟩ := open_arg Try.underlying25 hv1 h
  obtain ⟨B', m', e', l, hcs, hl, hme, hem, hR, _, _⟩ := open_is Try.underlying25 Try.underlying3 cells1 hf
  simp only [List.cons.injEq, and_true, Value.slice.injEq] at hcs
  obtain ⟨rfl, rfl, rfl⟩ := hcs
  exact ⟨_, _, _, l, rfl, hl, by omega, hR⟩
end
end Go.Proofs.Ytleapckcihcpaaa
