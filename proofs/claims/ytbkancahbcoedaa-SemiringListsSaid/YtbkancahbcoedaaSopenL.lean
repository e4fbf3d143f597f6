/-
  Opening lists of elements.
-/
import Derived.Test.YtbkancahbcoedaaOpenS
import Derived.Test.YtbkancahbcoedaaSopens
import Derived.Test.YtbkancahbcoedaaFoldV
namespace Go.Proofs.Ytbkancahbcoedaa
open Go.ChangeShapes Go.WideShapes Go.ChangeAt Go.RowKit Go.Joins
theorem cellsI : Try.prog.cellsOf 3 = 1 := by kernel_rfl
section
variable {H : Type} {enc : TypeId × Value → H} {W : World} {base : Nat} {held : Bool}
theorem open_il {v : Value} {d : DataW H} {p : List MemPlace} (hv : Value.okWide Try.prog W .any base 31 v) (h : DataW.Trod enc Try.prog W 0 (fun _ => true) true 31 v d p) :
    ∃ A n c l, v = .slice A n c ∧ l.length = n ∧ n ≤ maxLen ∧ Rd1 W A (.int .i64 ·) l := by
  obtain ⟨a, n, c, fuel, rfl, hf⟩ := open_arg Try.underlying31 hv h
  obtain ⟨A, m, k, l, e1, hl, h1, h2, hR, _⟩ := open_is Try.underlying31 Try.underlying3 cellsI hf
  simp only [List.cons.injEq, and_true] at e1
  exact ⟨A, m, k, l, e1, hl, by omega, hR⟩
theorem open_pv (fuel : Nat) (cs : List Value) (y : DataW H × List MemPlace) (h : DataW.trod enc Try.prog W base (fun _ => true) held fuel 23 cs = some y) : ∃ a : Int × Int, cs = pe a ∧ True := by
  obtain ⟨y0, y1, n, _, hl, h0, h1⟩ := trod_struct2 Try.underlying23 h
  rw [cellsV] at hl
  match cs, hl with
  | [v0, v1], _ =>
    simp only [cellsI, List.drop_zero, List.drop_succ_cons, List.take_succ_cons, List.take_zero] at h0 h1
    obtain ⟨a, e0, _, _⟩ := DataW.trod_int Try.underlying3 h0
    obtain ⟨b, e1, _, _⟩ := DataW.trod_int Try.underlying3 h1
    simp only [List.cons.injEq, and_true] at e0 e1
    subst e0 e1
    exact ⟨(a, b), rfl, trivial⟩
theorem open_vl {v : Value} {d : DataW H} {p : List MemPlace} (hv : Value.okWide Try.prog W .any base 32 v) (h : DataW.Trod enc Try.prog W 0 (fun _ => true) true 32 v d p) :
    ∃ A n c l, v = .slice A n c ∧ l.length = n ∧ n ≤ maxLen ∧ RdS W A 2 pe l := by
  obtain ⟨a, n, c, fuel, rfl, hf⟩ := open_arg Try.underlying32 hv h
  obtain ⟨A, m, k, l, e1, hl, h1, h2, hR, _, _⟩ := open_sl pe (fun _ => True) (by decide) Try.underlying32 cellsV open_pv hf
  simp only [List.cons.injEq, and_true] at e1
  exact ⟨A, m, k, l, e1, hl, by omega, hR⟩
end
end Go.Proofs.Ytbkancahbcoedaa
