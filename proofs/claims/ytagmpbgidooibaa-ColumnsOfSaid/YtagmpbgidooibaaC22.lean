/-
  Opening the arguments of the laws: inputs, prices, tokens, columns.
-/
import Derived.Test.YtagmpbgidooibaaOpenS
import Derived.Test.YtagmpbgidooibaaC19
namespace Go.Proofs.Ytagmpbgidooibaa
open Go.ChangeShapes Go.WideShapes Go.ChangeAt Go.RowKit Go.Joins Go.Deep
section
variable {H : Type} {enc : TypeId × Value → H} {P : Program} {w : World} {base : Nat} {α : Type}
/-- as open_sl, at held: and the address is told -/
theorem open_sl3 {t e : TypeId} {sz : Nat} (f : α → List Value) (Q : α → Prop) (hz : 0 < sz) (ht : P.underlying t = some (.slice e)) (hc : P.cellsOf e = sz)
    (hp : ∀ fuel cs y, DataW.trod enc P w base (fun _ => true) true fuel e cs = some y → ∃ a, cs = f a ∧ Q a)
    {fuel : Nat} {cs : List Value} {x : DataW H × List MemPlace} (h : DataW.trod enc P w base (fun _ => true) true fuel t cs = some x) :
    ∃ (A : Option Addr) (n c : Nat) (l : List α), cs = [.slice A n c] ∧ l.length = n ∧ n ≤ c ∧ c ≤ maxLen ∧ RdS w A sz f l ∧ (∀ a ∈ l, Q a) ∧ (A = none → n = 0 ∧ c = 0) ∧ ((n = 0 ∧ c = 0) ∨ ∃ b o, A = some ⟨b, o, none⟩) := by
  obtain ⟨A, n, c, l, rfl, h1, h2, h3, h4, h5, _⟩ := open_sl f Q hz ht hc hp h
  refine ⟨A, n, c, l, rfl, h1, h2, h3, h4, h5, ?_⟩
  rcases open_slice ht h with ⟨e1, _⟩ | ⟨a, len, cap, m, k, D, Pl, e1, hb, hl, hm, hmm, _, hx⟩
  · simp only [List.cons.injEq, and_true, Value.slice.injEq] at e1
    obtain ⟨rfl, rfl, rfl⟩ := e1
    exact ⟨fun _ => ⟨rfl, rfl⟩, .inl ⟨rfl, rfl⟩⟩
  · simp only [List.cons.injEq, and_true, Value.slice.injEq] at e1
    obtain ⟨rfl, rfl, rfl⟩ := e1
    simp only [if_true] at hmm
    subst hmm
    refine ⟨fun e => (by cases e), ?_⟩
    by_cases h0 : n = 0 ∧ m = 0
    · exact .inl h0
    · right
      obtain ⟨cs', g1, g2⟩ := hx 0 (by omega)
      rw [hc] at g1
      obtain ⟨_, hlen, hcell⟩ := World.cells?_some g1
      have hh := hcell 0 (by omega)
      rw [add_add] at hh
      simp only [Nat.zero_mul, Nat.add_zero, Addr.add, if_true] at hh
      rw [List.getElem?_eq_getElem (by omega)] at hh
      exact ⟨a.block, a.off, by rw [← spot_none hh]⟩
theorem open_is3 {t e : TypeId} {k : IntKind} (ht : P.underlying t = some (.slice e)) (he : P.underlying e = some (.int k)) (hc : P.cellsOf e = 1)
    {fuel : Nat} {cs : List Value} {x : DataW H × List MemPlace} (h : DataW.trod enc P w base (fun _ => true) true fuel t cs = some x) :
    ∃ (A : Option Addr) (n c : Nat) (l : List Int), cs = [.slice A n c] ∧ l.length = n ∧ n ≤ c ∧ c ≤ maxLen ∧ Rd1 w A (.int k ·) l ∧ (A = none → n = 0 ∧ c = 0) ∧ ((n = 0 ∧ c = 0) ∨ ∃ b o, A = some ⟨b, o, none⟩) := by
  obtain ⟨A, n, c, l, h1, h2, h3, h4, h5, _, h6, h7⟩ := open_sl3 (fun a : Int => [.int k a]) (fun a => True) (by decide) ht hc (fun fuel cs y hy => by
    obtain ⟨a, e0, _, _⟩ := DataW.trod_int he hy
    exact ⟨a, e0, trivial⟩) h
  exact ⟨A, n, c, l, h1, h2, h3, h4, rd1_of_S h5, h6, h7⟩
end
theorem cellsInt : Try.prog.cellsOf 3 = 1 := by kernel_rfl
theorem cellsIs : Try.prog.cellsOf 23 = 1 := by kernel_rfl
theorem cellsCol : Try.prog.cellsOf 51 = 3 := by kernel_rfl
theorem cellsCols : Try.prog.cellsOf 22 = 1 := by kernel_rfl
theorem cellsIn : Try.prog.cellsOf 25 = 3 := by kernel_rfl
theorem cellsChg : Try.prog.cellsOf 45 = 3 := by kernel_rfl
theorem cellsConf : Try.prog.cellsOf 53 = 2 := by kernel_rfl
theorem cellsConfs : Try.prog.cellsOf 54 = 1 := by kernel_rfl
theorem cellsConfss : Try.prog.cellsOf 29 = 1 := by kernel_rfl
theorem cellsIss : Try.prog.cellsOf 32 = 1 := by kernel_rfl
theorem cellsPr : Try.prog.cellsOf 34 = 5 := by kernel_rfl
theorem cellsTok : Try.prog.cellsOf 31 = 2 := by kernel_rfl
section
variable {H : Type} {enc : TypeId × Value → H} {W : World} {base : Nat}
theorem open_col (fuel : Nat) (cs : List Value) (y : DataW H × List MemPlace) (h : DataW.trod enc Try.prog W base (fun _ => true) true fuel 51 cs = some y) :
    ∃ a : CC, cs = encC a ∧ Rd1 W a.A (.int .i64 ·) a.r ∧ a.r.length ≤ maxLen := by
  obtain ⟨y0, y1, y2, n, _, hl, h0, h1, h2⟩ := trod_struct3 Try.underlying51 h
  rw [cellsCol] at hl
  match cs, hl with
  | [v0, v1, v2], _ =>
    simp only [cellsInt, cellsIs, List.drop_zero, List.drop_succ_cons, List.take_succ_cons, List.take_zero] at h0 h1 h2
    obtain ⟨a, e0, _, _⟩ := DataW.trod_int Try.underlying3 h0
    obtain ⟨A, m, c, l, e1, hlm, _, hc, hR, _⟩ := open_is3 Try.underlying23 Try.underlying3 cellsInt h1
    obtain ⟨b, e2, _, _⟩ := DataW.trod_int Try.underlying3 h2
    simp only [List.cons.injEq, and_true] at e0 e1 e2
    subst e0 e1 e2
    subst hlm
    exact ⟨⟨a, l, b, A, c⟩, rfl, hR, by simp only; omega⟩
theorem open_cols {fuel : Nat} {cs : List Value} {x : DataW H × List MemPlace} (h : DataW.trod enc Try.prog W base (fun _ => true) true fuel 22 cs = some x) :
    ∃ A n c es, cs = [.slice A n c] ∧ es.length = n ∧ n ≤ c ∧ c ≤ maxLen ∧ RdC W A es ∧ (A = none → n = 0 ∧ c = 0) ∧ ((n = 0 ∧ c = 0) ∨ ∃ b o, A = some ⟨b, o, none⟩) := by
  obtain ⟨A, n, c, es, e1, hl, hnc, hc, hR, hQ, h1, h2⟩ := open_sl3 encC (fun a => Rd1 W a.A (.int .i64 ·) a.r ∧ a.r.length ≤ maxLen) (by decide) Try.underlying22 cellsCol open_col h
  exact ⟨A, n, c, es, e1, hl, hnc, hc, ⟨hR, hQ⟩, h1, h2⟩
theorem open_conf (fuel : Nat) (cs : List Value) (y : DataW H × List MemPlace) (h : DataW.trod enc Try.prog W base (fun _ => true) true fuel 53 cs = some y) : ∃ a : Int × Int, cs = encP a ∧ True := by
  obtain ⟨y0, y1, n, _, hl, h0, h1⟩ := trod_struct2 Try.underlying53 h
  rw [cellsConf] at hl
  match cs, hl with
  | [v0, v1], _ =>
    simp only [cellsInt, List.drop_zero, List.drop_succ_cons, List.take_succ_cons, List.take_zero] at h0 h1
    obtain ⟨a, e0, _, _⟩ := DataW.trod_int Try.underlying3 h0
    obtain ⟨b, e1, _, _⟩ := DataW.trod_int Try.underlying3 h1
    simp only [List.cons.injEq, and_true] at e0 e1
    subst e0 e1
    exact ⟨(a, b), rfl, trivial⟩
theorem open_xrow (fuel : Nat) (cs : List Value) (y : DataW H × List MemPlace) (h : DataW.trod enc Try.prog W base (fun _ => true) true fuel 54 cs = some y) : ∃ a : XX, cs = encX a ∧ RdS W a.A 2 encP a.l ∧ a.l.length ≤ maxLen := by
  obtain ⟨A, n, c, es, e1, hl, hnc, hc, hR, _, _⟩ := open_sl3 encP (fun _ => True) (by decide) Try.underlying54 cellsConf open_conf h
  subst hl
  exact ⟨⟨es, A, c⟩, e1, hR, by simp only; omega⟩
theorem open_xs {fuel : Nat} {cs : List Value} {x : DataW H × List MemPlace} (h : DataW.trod enc Try.prog W base (fun _ => true) true fuel 29 cs = some x) :
    ∃ A n c es, cs = [.slice A n c] ∧ es.length = n ∧ n ≤ c ∧ c ≤ maxLen ∧ RdX W A es ∧ (A = none → n = 0 ∧ c = 0) ∧ ((n = 0 ∧ c = 0) ∨ ∃ b o, A = some ⟨b, o, none⟩) := by
  obtain ⟨A, n, c, es, e1, hl, hnc, hc, hR, hQ, h1, h2⟩ := open_sl3 encX (fun a => RdS W a.A 2 encP a.l ∧ a.l.length ≤ maxLen) (by decide) Try.underlying29 cellsConfs open_xrow h
  exact ⟨A, n, c, es, e1, hl, hnc, hc, ⟨hR, hQ⟩, h1, h2⟩
theorem open_irow (fuel : Nat) (cs : List Value) (y : DataW H × List MemPlace) (h : DataW.trod enc Try.prog W base (fun _ => true) true fuel 23 cs = some y) : ∃ a : RR, cs = encR a ∧ Rd1 W a.A (.int .i64 ·) a.l ∧ a.l.length ≤ maxLen := by
  obtain ⟨A, n, c, es, e1, hl, hnc, hc, hR, _, _⟩ := open_is3 Try.underlying23 Try.underlying3 cellsInt h
  subst hl
  exact ⟨⟨es, A, c⟩, e1, hR, by simp only; omega⟩
theorem open_rows {fuel : Nat} {cs : List Value} {x : DataW H × List MemPlace} (h : DataW.trod enc Try.prog W base (fun _ => true) true fuel 32 cs = some x) :
    ∃ A n c es, cs = [.slice A n c] ∧ es.length = n ∧ n ≤ c ∧ c ≤ maxLen ∧ RdR W A es := by
  obtain ⟨A, n, c, es, e1, hl, hnc, hc, hR, hQ, _, _⟩ := open_sl3 encR (fun a => Rd1 W a.A (.int .i64 ·) a.l ∧ a.l.length ≤ maxLen) (by decide) Try.underlying32 cellsIs open_irow h
  exact ⟨A, n, c, es, e1, hl, hnc, hc, ⟨hR, hQ⟩⟩
theorem open_in {v : Value} {d : DataW H} {p : List MemPlace} (hv1 : Value.okWide Try.prog W .any base 25 v) (h : DataW.Trod enc Try.prog W 0 (fun _ => true) true 25 v d p) :
    ∃ A n c B m d s cs ins, v = iv A n c B m d s ∧ cs.length = n ∧ n ≤ c ∧ c ≤ maxLen ∧ ins.length = m ∧ m ≤ maxLen ∧ RdC W A cs ∧ Rd1 W B (.int .i64 ·) ins ∧ ((n = 0 ∧ c = 0) ∨ ∃ b o, A = some ⟨b, o, none⟩) := by
  obtain ⟨c0, c1, c2, y0, y1, y2, m, rfl, rfl, rfl, hy0, hy1, hy2⟩ := open_agg3 Try.underlying25 (by kernel_rfl) cellsIn hv1 h
  obtain ⟨A, n, c, es, e0, hl, hnc, hc, hR, _, hA⟩ := open_cols hy0
  obtain ⟨B, k, d, ins, e1, hil, hkd, hd, hI, _, _⟩ := open_is3 Try.underlying23 Try.underlying3 cellsInt hy1
  obtain ⟨s, e2, _, _⟩ := DataW.trod_int Try.underlying3 hy2
  simp only [List.cons.injEq, and_true] at e0 e1 e2
  subst e0 e1 e2
  exact ⟨A, n, c, B, k, d, s, es, ins, rfl, hl, hnc, hc, hil, by omega, hR, hI, hA⟩
theorem open_chg {v : Value} {d : DataW H} {p : List MemPlace} (hv1 : Value.okWide Try.prog W .any base 45 v) (h : DataW.Trod enc Try.prog W 0 (fun _ => true) true 45 v d p) :
    ∃ fr od nw, v = .agg #[.int .i64 fr, .int .i64 od, .int .i64 nw] ∧ (Lit.int .i64 fr).wf = true ∧ (Lit.int .i64 od).wf = true ∧ (Lit.int .i64 nw).wf = true := by
  obtain ⟨c0, c1, c2, y0, y1, y2, m, rfl, rfl, rfl, hy0, hy1, hy2⟩ := open_agg3 Try.underlying45 (by kernel_rfl) cellsChg hv1 h
  obtain ⟨a, e0, _, w0⟩ := DataW.trod_int Try.underlying3 hy0
  obtain ⟨b, e1, _, w1⟩ := DataW.trod_int Try.underlying3 hy1
  obtain ⟨c, e2, _, w2⟩ := DataW.trod_int Try.underlying3 hy2
  simp only [List.cons.injEq, and_true] at e0 e1 e2
  subst e0 e1 e2
  exact ⟨a, b, c, rfl, w0, w1, w2⟩
theorem open_tok {v : Value} {d : DataW H} {p : List MemPlace} (hv1 : Value.okWide Try.prog W .any base 31 v) (h : DataW.Trod enc Try.prog W 0 (fun _ => true) true 31 v d p) :
    ∃ Z n zc X m xc ks xs, v = tv Z n zc X m xc ∧ ks.length = n ∧ n ≤ zc ∧ zc ≤ maxLen ∧ xs.length = m ∧ m ≤ xc ∧ xc ≤ maxLen ∧ Rd1 W Z (.int .i64 ·) ks ∧ RdX W X xs ∧ (Z = none → n = 0 ∧ zc = 0) ∧ ((n = 0 ∧ zc = 0) ∨ ∃ b o, Z = some ⟨b, o, none⟩) ∧ (X = none → m = 0 ∧ xc = 0) ∧ ((m = 0 ∧ xc = 0) ∨ ∃ b o, X = some ⟨b, o, none⟩) := by
  obtain ⟨c0, c1, y0, y1, m, rfl, rfl, rfl, hy0, hy1⟩ := open_agg2 Try.underlying31 (by kernel_rfl) cellsTok hv1 h
  obtain ⟨B, k, d, ins, e0, hil, hkd, hd, hI, a1, a2⟩ := open_is3 Try.underlying23 Try.underlying3 cellsInt hy0
  obtain ⟨A, n, c, es, e1, hl, hnc, hc, hR, a3, a4⟩ := open_xs hy1
  simp only [List.cons.injEq, and_true] at e0 e1
  subst e0 e1
  exact ⟨B, k, d, A, n, c, ins, es, rfl, hil, hkd, hd, hl, hnc, hc, hI, hR, a1, a2, a3, a4⟩
theorem open_pr {v : Value} {d : DataW H} {p : List MemPlace} (hv1 : Value.okWide Try.prog W .any base 34 v) (h : DataW.Trod enc Try.prog W 0 (fun _ => true) true 34 v d p) :
    ∃ A1 n1 c1 A2 n2 c2 A3 n3 c3 s u ins del rep, v = pv A1 n1 c1 A2 n2 c2 A3 n3 c3 s u ∧ ins.length = n1 ∧ del.length = n2 ∧ rep.length = n3 ∧ n1 ≤ maxLen ∧ n2 ≤ maxLen ∧ n3 ≤ maxLen ∧ (A1 = none → n1 = 0 ∧ c1 = 0) ∧ Rd1 W A1 (.int .i64 ·) ins ∧ Rd1 W A2 (.int .i64 ·) del ∧ RdR W A3 rep := by
  obtain ⟨cs, rfl, hsz⟩ := okWide_struct Try.underlying34 hv1
  rw [cellsPr] at hsz
  obtain ⟨fuel, hf⟩ := h
  obtain ⟨xs, n, _, _, _, hlen, hfs⟩ := DataW.trod_struct Try.underlying34 hf
  have hsz' : (Value.cells (.agg cs)).toList.length = 5 := by show cs.toList.length = 5; simpa using hsz
  generalize hcl : (Value.cells (.agg cs)).toList = l at hfs hsz' hf
  have hcs : cs = l.toArray := by rw [← hcl]; simp [Value.cells]
  match l, hsz' with
  | [v0, v1, v2, v3, v4], _ =>
    have k0 : DataW.trod enc Try.prog W 0 (fun _ => true) true n 23 (([v0, v1, v2, v3, v4].drop 0).take (Try.prog.cellsOf 23)) = xs[0]? := hfs 0 _ rfl
    have k1 : DataW.trod enc Try.prog W 0 (fun _ => true) true n 23 (([v0, v1, v2, v3, v4].drop 1).take (Try.prog.cellsOf 23)) = xs[1]? := hfs 1 _ rfl
    have k2 : DataW.trod enc Try.prog W 0 (fun _ => true) true n 32 (([v0, v1, v2, v3, v4].drop 2).take (Try.prog.cellsOf 32)) = xs[2]? := hfs 2 _ rfl
    have k3 : DataW.trod enc Try.prog W 0 (fun _ => true) true n 3 (([v0, v1, v2, v3, v4].drop 3).take (Try.prog.cellsOf 3)) = xs[3]? := hfs 3 _ rfl
    have k4 : DataW.trod enc Try.prog W 0 (fun _ => true) true n 3 (([v0, v1, v2, v3, v4].drop 4).take (Try.prog.cellsOf 3)) = xs[4]? := hfs 4 _ rfl
    simp only [cellsInt, cellsIs, cellsIss, List.drop_zero, List.drop_succ_cons, List.take_succ_cons, List.take_zero] at k0 k1 k2 k3 k4
    obtain ⟨u0, g0⟩ : ∃ u, xs[0]? = some u := ⟨_, List.getElem?_eq_getElem (by rw [hlen]; decide)⟩
    obtain ⟨u1, g1⟩ : ∃ u, xs[1]? = some u := ⟨_, List.getElem?_eq_getElem (by rw [hlen]; decide)⟩
    obtain ⟨u2, g2⟩ : ∃ u, xs[2]? = some u := ⟨_, List.getElem?_eq_getElem (by rw [hlen]; decide)⟩
    obtain ⟨u3, g3⟩ : ∃ u, xs[3]? = some u := ⟨_, List.getElem?_eq_getElem (by rw [hlen]; decide)⟩
    obtain ⟨u4, g4⟩ : ∃ u, xs[4]? = some u := ⟨_, List.getElem?_eq_getElem (by rw [hlen]; decide)⟩
    rw [g0] at k0
    rw [g1] at k1
    rw [g2] at k2
    rw [g3] at k3
    rw [g4] at k4
    obtain ⟨A1, n1, c1, ins, e0, l1, b1, m1, r1, z1, _⟩ := open_is3 Try.underlying23 Try.underlying3 cellsInt k0
    obtain ⟨A2, n2, c2, del, e1, l2, b2, m2, r2, _, _⟩ := open_is3 Try.underlying23 Try.underlying3 cellsInt k1
    obtain ⟨A3, n3, c3, rep, e2, l3, b3, m3, r3⟩ := open_rows k2
    obtain ⟨s, e3, _, _⟩ := DataW.trod_int Try.underlying3 k3
    obtain ⟨u, e4, _, _⟩ := DataW.trod_int Try.underlying3 k4
    simp only [List.cons.injEq, and_true] at e0 e1 e2 e3 e4
    subst e0 e1 e2 e3 e4
    subst hcs
    exact ⟨A1, n1, c1, A2, n2, c2, A3, n3, c3, s, u, ins, del, rep, rfl, l1, l2, l3, by omega, by omega, by omega, z1, r1, r2, r3⟩
theorem open_carg {v : Value} {d : DataW H} {p : List MemPlace} (hv1 : Value.okWide Try.prog W .any base 22 v) (h : DataW.Trod enc Try.prog W 0 (fun _ => true) true 22 v d p) :
    ∃ L ln lc ls, v = .slice L ln lc ∧ ls.length = ln ∧ ln ≤ lc ∧ lc ≤ maxLen ∧ RdC W L ls ∧ (L = none → ln = 0 ∧ lc = 0) := by
  obtain ⟨L, ln, lc, fuel, rfl, hf⟩ := open_arg Try.underlying22 hv1 h
  obtain ⟨A, n, c, es, e0, hl, hnc, hc, hR, a1, _⟩ := open_cols hf
  simp only [List.cons.injEq, and_true, Value.slice.injEq] at e0
  obtain ⟨rfl, rfl, rfl⟩ := e0
  exact ⟨L, ln, lc, es, rfl, hl, hnc, hc, hR, a1⟩
end
end Go.Proofs.Ytagmpbgidooibaa
