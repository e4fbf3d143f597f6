/-
  Normal grammars: how one lies in memory, and the hypergraph that belongs to it.
-/
import Derived.Test.YtleapckcihcpaaaKyp
import Derived.Test.YtleapckcihcpaaaBlk
import Derived.Test.YtleapckcihcpaaaPnorm
namespace Go.Proofs.Ytleapckcihcpaaa
open Go.RowKit PK
def encR (r : NR) : List Value := [.int .i64 r.kd, .int .i64 r.h, .int .i64 r.a, .int .i64 r.b, .int .i64 r.p, .int .i64 r.o]
theorem encR_len (r : NR) : (encR r).length = 6 := rfl
abbrev nmv (T N st : Int) (A : Option Addr) (n c : Nat) : Value := .agg #[.int .i64 T, .int .i64 N, .int .i64 st, .slice A n c]
abbrev RdN (w : World) (A : Option Addr) (rs : List NR) : Prop := RdS w A 6 encR rs
/-- the hyperedges of the rules -/
def GR (ins : List Int) (rs : List NR) (es : List EI) : Prop := es.length = rs.length ∧ ∀ (i : Nat) (r : NR) (e : EI), rs[i]? = some r → es[i]? = some e → e.h = r.h ∧ e.t = tailsN r ∧ e.c = costN ins r
theorem GR.at {ins : List Int} {rs : List NR} {es : List EI} (h : GR ins rs es) {e : EI} (he : e ∈ es) : ∃ r ∈ rs, e.h = r.h ∧ e.t = tailsN r ∧ e.c = costN ins r := by
  obtain ⟨i, hi, hg⟩ := List.mem_iff_getElem.1 he
  have hl := h.1
  have hr : i < rs.length := by omega
  exact ⟨rs[i], List.getElem_mem hr, h.2 i rs[i] e (List.getElem?_eq_getElem hr) (by rw [List.getElem?_eq_getElem hi, hg])⟩
theorem GR.EEs {ins : List Int} {rs : List NR} {es : List EI} (h : GR ins rs es) : EEs es = grE ins rs := by
  apply List.ext_getElem?
  intro i
  unfold grE
  rw [List.getElem?_map, List.getElem?_map]
  by_cases hi : i < es.length
  · have hr : i < rs.length := by have := h.1; omega
    obtain ⟨h1, h2, h3⟩ := h.2 i rs[i] es[i] (List.getElem?_eq_getElem hr) (List.getElem?_eq_getElem hi)
    rw [List.getElem?_eq_getElem hi, List.getElem?_eq_getElem hr]
    simp only [Option.map_some, toEE, gE, h1, h2, h3]
  · rw [List.getElem?_eq_none (by omega), List.getElem?_eq_none (by have := h.1; omega)]; rfl
theorem GR.valid {T N st : Int} {ins : List Int} {rs : List NR} {es : List EI} (h : GR ins rs es) (hv : validN T N st rs = true) (hp : pricesB T ins = true) : validB N es = true := by
  obtain ⟨_, _, h3, h4, _, h6⟩ := validN_parts hv
  simp only [validB, Bool.and_eq_true, decide_eq_true_eq, List.all_eq_true]
  refine ⟨⟨h3, by omega⟩, fun e he => ?_⟩
  obtain ⟨r, hr, e1, e2, e3⟩ := h.at he
  obtain ⟨g1, g2, _, _, _, g6⟩ := okN_parts (h6 r hr)
  have g7 := cost_bd (h6 r hr) hp
  simp only [okE, inB', Bool.and_eq_true, decide_eq_true_eq, List.all_eq_true, e1, e2, e3]
  exact ⟨⟨⟨⟨g1, g2⟩, g7.1⟩, by omega⟩, fun t ht => g6 t ht⟩
theorem tailsN_len (r : NR) : (tailsN r).length ≤ 2 := by
  unfold tailsN
  split
  · simp
  · split <;> simp
theorem GR.tl {ins : List Int} {rs : List NR} {es : List EI} (h : GR ins rs es) : ∀ e ∈ es, e.t.length ≤ 1000000 := fun e he => by
  obtain ⟨r, _, _, e2, _⟩ := h.at he
  have := tailsN_len r
  rw [e2]; omega
end Go.Proofs.Ytleapckcihcpaaa
