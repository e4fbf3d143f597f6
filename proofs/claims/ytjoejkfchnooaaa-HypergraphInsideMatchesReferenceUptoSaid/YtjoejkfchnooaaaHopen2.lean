/-
  Opening a hypergraph, with the bulk of its data.
-/
import Derived.Test.YtjoejkfchnooaaaHopens
import Derived.Test.YtjoejkfchnooaaaHder2
import Derived.Test.YtjoejkfchnooaaaRows
namespace Go.Proofs.Ytjoejkfchnooaaa
open Go.ChangeShapes Go.WideShapes Go.ChangeAt Go.RowKit Go.Joins Go.Deep
/-! ### bulk -/
theorem bulk_one {H : Type} (d : DataW H) : 1 ≤ Rows.uptoBulk d := by
  cases d with
  | lit l => cases l <;> simp [Rows.uptoBulk]
  | nil => simp [Rows.uptoBulk]
  | ptr d => simp [Rows.uptoBulk]
  | slice elems spare => simp [Rows.uptoBulk]
  | agg parts => simp [Rows.uptoBulk]
  | iface t d => simp [Rows.uptoBulk]
  | map entries => simp [Rows.uptoBulk]
  | held h => simp [Rows.uptoBulk]
theorem bulk_len {H : Type} : ∀ l : List (DataW H), l.length ≤ Rows.uptoBulkAll l
  | [] => by simp [Rows.uptoBulkAll]
  | x :: r => by have := bulk_one x; have := bulk_len r; simp only [Rows.uptoBulkAll, List.length_cons]; omega
theorem bulk_slice {H : Type} (es sp : List (DataW H)) : Rows.uptoBulkAll es ≤ Rows.uptoBulk (.slice es sp) := by simp only [Rows.uptoBulk]; omega
section
variable {H : Type} {enc : TypeId × Value → H} {P : Program} {w : World} {base : Nat} {held : Bool} {α : Type}
/-- as open_sl: and each element's data is told beside it -/
theorem open_sl2 {t e : TypeId} {sz : Nat} (f : α → List Value) (Q : α → DataW H → Prop) (hz : 0 < sz) (ht : P.underlying t = some (.slice e)) (hc : P.cellsOf e = sz)
    (hp : ∀ fuel cs y, DataW.trod enc P w base (fun _ => true) held fuel e cs = some y → ∃ a, cs = f a ∧ Q a y.1)
    {fuel : Nat} {cs : List Value} {x : DataW H × List MemPlace} (h : DataW.trod enc P w base (fun _ => true) held fuel t cs = some x) :
    ∃ (A : Option Addr) (n c : Nat) (l : List α), cs = [.slice A n c] ∧ l.length = n ∧ n ≤ c ∧ c ≤ maxLen ∧ RdS w A sz f l ∧ (∀ a ∈ l, ∃ d, Q a d) ∧
      ((∃ es sp, x.1 = .slice es sp ∧ es.length = n ∧ ∀ (i : Nat) (a : α), l[i]? = some a → ∃ d, es[i]? = some d ∧ Q a d) ∨ (x.1 = .nil ∧ n = 0)) := by
  rcases open_slice ht h with ⟨rfl, rfl⟩ | ⟨a, len, cap, m, n, D, Pl, rfl, hb, hl, hm, hmm, rfl, hx⟩
  · exact ⟨none, 0, 0, [], rfl, rfl, Nat.le_refl _, Nat.zero_le _, RdS.nil, fun _ h => by simp at h, .inr ⟨rfl, rfl⟩⟩
  simp only [if_true] at hmm
  subst hmm
  have each : ∀ i, i < len → ∃ u : α, Q u (D i) ∧ ∀ j v, (f u)[j]? = some v → j < sz → w.cell? (a.add (i * sz + j)) = some v := by
    intro i hi
    obtain ⟨cs', h1, h2⟩ := hx i (by omega)
    obtain ⟨u, rfl, hQ⟩ := hp _ _ _ h2
    rw [hc] at h1
    obtain ⟨_, hlen, hcell⟩ := World.cells?_some h1
    refine ⟨u, hQ, fun j v hv hj => ?_⟩
    have := hcell j (by omega)
    rw [add_add] at this
    rw [this]
    have h3 := List.getElem?_eq_some_iff.1 hv
    obtain ⟨h4, h5⟩ := h3
    simp [hv]
  by_cases h0 : len = 0
  · subst h0
    exact ⟨some a, 0, m, [], rfl, rfl, Nat.zero_le _, hm, RdS.nil, fun _ h => by simp at h, .inl ⟨_, _, rfl, by simp, fun i a h => by simp at h⟩⟩
  have hne : Nonempty α := let ⟨u, _⟩ := each 0 (by omega); ⟨u⟩
  have hi : Inhabited α := ⟨Classical.choice hne⟩
  obtain ⟨V, hV⟩ := choose_lt each
  have hsp : a = ⟨a.block, a.off, none⟩ := by
    obtain ⟨cs', h1, h2⟩ := hx 0 (by omega)
    rw [hc] at h1
    obtain ⟨_, hlen, hcell⟩ := World.cells?_some h1
    have := hcell 0 (by omega)
    rw [add_add] at this
    simp only [Nat.zero_mul, Nat.add_zero, Addr.add, if_true] at this
    rw [List.getElem?_eq_getElem (by omega)] at this
    exact spot_none this
  refine ⟨some a, len, m, (List.range len).map V, rfl, by simp, hl, hm, ?_, ?_, .inl ⟨_, _, rfl, by simp, ?_⟩⟩
  · intro i u hu
    rw [List.getElem?_map] at hu
    obtain ⟨k, hk, rfl⟩ := Option.map_eq_some_iff.1 hu
    have hk2 := List.getElem?_eq_some_iff.1 hk
    obtain ⟨hk3, hk4⟩ := hk2
    simp at hk3 hk4
    subst hk4
    refine ⟨a.block, a.off, by rw [← hsp], fun j v hj hv => ?_⟩
    have := (hV i hk3).2 j v hv hj
    rw [hsp] at this
    rw [add_plain, ← Nat.add_assoc] at this; exact this
  · intro u hu
    simp at hu
    obtain ⟨i, hi, rfl⟩ := hu
    exact ⟨_, (hV i hi).1⟩
  · intro i u hu
    rw [List.getElem?_map] at hu
    obtain ⟨k, hk, rfl⟩ := Option.map_eq_some_iff.1 hu
    have hk2 := List.getElem?_eq_some_iff.1 hk
    obtain ⟨hk3, hk4⟩ := hk2
    simp at hk3 hk4
    subst hk4
    exact ⟨D i, by rw [List.getElem?_map, List.getElem?_range hk3]; rfl, (hV i hk3).1⟩
end
section
variable {H : Type} {enc : TypeId × Value → H} {W : World} {base : Nat} {held : Bool}
theorem open_edge2 (fuel : Nat) (cs : List Value) (y : DataW H × List MemPlace) (h : DataW.trod enc Try.prog W base (fun _ => true) held fuel 39 cs = some y) :
    ∃ a : EI, cs = encE a ∧ (Rd1 W a.A (.int .i64 ·) a.t ∧ a.t.length ≤ maxLen) ∧ a.t.length ≤ Rows.uptoBulk y.1 := by
  obtain ⟨y0, y1, y2, y3, n, hy, hl, h0, h1, h2, h3⟩ := trod_struct4 Try.underlying39 h
  rw [cellsE] at hl
  match cs, hl with
  | [v0, v1, v2, v3, v4], _ =>
    simp only [cells1, cellsS, cellsL, List.drop_zero, List.drop_succ_cons, List.take_succ_cons, List.take_zero] at h0 h1 h2 h3
    obtain ⟨a, e0, _, _⟩ := DataW.trod_int Try.underlying3 h0
    obtain ⟨A, m, c, l, e1, hlm, _, hc, hR, _, es, sp, hd⟩ := open_is Try.underlying32 Try.underlying3 cells1 h1
    obtain ⟨b, e2, _, _⟩ := DataW.trod_int Try.underlying3 h2
    obtain ⟨xs, q, _, _, _, _, h4⟩ := DataW.trod_array Try.underlying37 h3
    have k0 := h4 0 (by decide)
    have k1 := h4 1 (by decide)
    simp only [cells1, Nat.zero_mul, Nat.one_mul, List.drop_zero, List.drop_succ_cons, List.take_succ_cons, List.take_zero] at k0 k1
    rename_i hx2
    obtain ⟨u0, g0⟩ : ∃ u, xs[0]? = some u := ⟨_, List.getElem?_eq_getElem (by omega)⟩
    obtain ⟨u1, g1⟩ : ∃ u, xs[1]? = some u := ⟨_, List.getElem?_eq_getElem (by omega)⟩
    rw [g0] at k0
    rw [g1] at k1
    obtain ⟨l0, e3, _, _⟩ := DataW.trod_int Try.underlying3 k0
    obtain ⟨l1, e4, _, _⟩ := DataW.trod_int Try.underlying3 k1
    simp only [List.cons.injEq, and_true] at e0 e1 e2 e3 e4
    subst e0 e1 e2 e3 e4
    subst hlm
    refine ⟨⟨a, l, b, l0, l1, A, c⟩, rfl, ⟨hR, by simp only; omega⟩, ?_⟩
    rw [hy]
    simp only [Rows.uptoBulk, Rows.uptoBulkAll]
    have : l.length ≤ Rows.uptoBulk y1.1 := by
      rcases hd with ⟨hd, he⟩ | ⟨hd, he⟩
      · rw [hd]
        have h1 := bulk_slice es sp
        have h2 := bulk_len es
        omega
      · omega
    omega
theorem sumT_bulk : ∀ (es : List EI) (ds : List (DataW H)), (∀ (i : Nat) (a : EI), es[i]? = some a → ∃ d, ds[i]? = some d ∧ a.t.length ≤ Rows.uptoBulk d) → (es.map (fun e => e.t.length)).sum ≤ Rows.uptoBulkAll ds
  | [], _, _ => by simp
  | e :: es, ds, h => by
    obtain ⟨d, hd, hle⟩ := h 0 e rfl
    cases ds with
    | nil => simp at hd
    | cons x ds =>
      simp only [List.getElem?_cons_zero, Option.some.injEq] at hd
      subst hd
      have := sumT_bulk es ds (fun i a hi => h (i + 1) a hi)
      simp only [List.map_cons, List.sum_cons, Rows.uptoBulkAll]
      omega
theorem sumT_map (es : List EI) : ∀ k, k ≤ es.length → sumT es k = ((es.take k).map (fun e => e.t.length)).sum
  | 0, _ => by simp [sumT]
  | k + 1, h => by
    obtain ⟨x, hx⟩ : ∃ x, es[k]? = some x := ⟨_, List.getElem?_eq_getElem (by omega)⟩
    rw [sumT_succ, sumT_map es k (by omega), List.take_add_one, hx, List.map_append, List.sum_append]
    have : (tl es k).length = x.t.length := by unfold tl; rw [hx]; simp
    rw [this]
    simp
theorem open_hg2 {v : Value} {d : DataW H} {p : List MemPlace} (hv1 : Value.okWide Try.prog W .any base 24 v) (h : DataW.Trod enc Try.prog W 0 (fun _ => true) true 24 v d p) :
    ∃ N A n c es, v = hv N A n c ∧ es.length = n ∧ n ≤ maxLen ∧ RdE W A es ∧ sumT es n ≤ Rows.uptoBulk d := by
  obtain ⟨c0, c1, y0, y1, m, rfl, rfl, rfl, hy0, hy1⟩ := open_agg2 Try.underlying24 (by kernel_rfl) cellsH hv1 h
  obtain ⟨a, e0, _, _⟩ := DataW.trod_int Try.underlying3 hy0
  obtain ⟨A, n, c, es, e1, hl, hnc, hc, hR, hQ, hd⟩ := open_sl2 encE (fun a d => (Rd1 W a.A (.int .i64 ·) a.t ∧ a.t.length ≤ maxLen) ∧ a.t.length ≤ Rows.uptoBulk d) (by decide) Try.underlying22 cellsE open_edge2 hy1
  simp only [List.cons.injEq, and_true] at e0 e1
  subst e0 e1
  refine ⟨a, A, n, c, es, rfl, hl, by omega, ⟨hR, fun e he => by obtain ⟨d, h1, _⟩ := hQ e he; exact h1⟩, ?_⟩
  rw [sumT_map es n (by omega), List.take_of_length_le (by omega)]
  simp only [Rows.uptoBulk, Rows.uptoBulkAll]
  rcases hd with ⟨ds, sp, h1, h2, h3⟩ | ⟨h1, h2⟩
  · have h4 := sumT_bulk es ds (fun i a hi => by obtain ⟨d, h5, _, h6⟩ := h3 i a hi; exact ⟨d, h5, h6⟩)
    have h5 := bulk_slice ds sp
    rw [h1]
    omega
  · have : es = [] := List.length_eq_zero_iff.1 (by omega)
    subst this
    simp
end
end Go.Proofs.Ytjoejkfchnooaaa
