/-
  Input of tokens: what it is, as plain mathematics; a block that holds an input; the function that picks a token's confusions.
-/
import Derived.Test.YtagmpbgidooibaaC12
namespace Go.Proofs.Ytagmpbgidooibaa
open Go.RowKit Go.Deep
attribute [local go_sem] Oper.lit Oper.litS fut_fut fut_drew World.cell?_alloc_some
def okX (T kd : Int) (p : Int × Int) : Bool := ((decide (0 ≤ p.1) && decide (p.1 < T)) && !decide (p.1 = kd)) && lg p.2
def okT (T kd : Int) (xs : List (Int × Int)) : Bool := (decide (-1 ≤ kd) && decide (kd < T)) && xs.all (okX T kd)
def cf (cs : List XX) (i : Nat) : List (Int × Int) := ((cs[i]?).map (·.l)).getD []
def lenB (n m : Nat) : Bool := decide (m = 0) || decide (m = n)
def ofE (ks : List Int) (cs : List XX) (ins del : List Int) (rep : List RR) (s u : Int) : Int :=
  if (pricesB ins del rep s u && lenB ks.length cs.length && allB ks.length (fun i => okT ins.length (gi ks i) (cf cs i))) = true then (if 60 < ks.length then 11 else 0) else 1
abbrev Key := Int × List Int × Int
def key (c : CC) : Key := (c.kd, c.r, c.d)
def keyT (T : Nat) (rep : List RR) (del : List Int) (u kd : Int) (xs : List (Int × Int)) : Key := (kd, (List.range T).map (rowF kd rep xs), delF kd del u)
def ofK (ks : List Int) (cs : List XX) (del : List Int) (rep : List RR) (u : Int) (T : Nat) : List Key := (List.range ks.length).map (fun i => keyT T rep del u (gi ks i) (cf cs i))
theorem cf_get {cs : List XX} {i : Nat} {x : XX} (h : cs[i]? = some x) : cf cs i = x.l := by simp [cf, h]
theorem cf_none {cs : List XX} {i : Nat} (h : cs.length ≤ i) : cf cs i = [] := by simp [cf, List.getElem?_eq_none h]
/-- what valid prices give -/
theorem prices_rows {ins del : List Int} {rep : List RR} {s u : Int} (h : pricesB ins del rep s u = true) : del.length = ins.length ∧ rep.length = ins.length ∧ ∀ r ∈ rep, r.l.length = ins.length ∧ ∀ x ∈ r.l, -1 ≤ x := by
  simp only [pricesB, Bool.and_eq_true, decide_eq_true_eq] at h
  obtain ⟨⟨⟨⟨h1, h2⟩, _⟩, _⟩, h3⟩ := h
  refine ⟨h1, h2, fun r hr => ?_⟩
  obtain ⟨a, ha, hra⟩ := List.getElem_of_mem hr
  have h4 := allB_get h3 a (by omega)
  have hg : rep[a]? = some r := by rw [List.getElem?_eq_getElem ha, hra]
  simp only [prA, rowB, Bool.and_eq_true, decide_eq_true_eq, gr_get hg] at h4
  refine ⟨h4.2.1, fun x hx => ?_⟩
  obtain ⟨b, hb, hxb⟩ := List.getElem_of_mem hx
  have h5 := allB_get h4.2.2 b hb
  have hg2 : r.l[b]? = some x := by rw [List.getElem?_eq_getElem hb, hxb]
  rw [gi_get hg2] at h5
  unfold okQ at h5
  split at h5
  · have := of_decide_eq_true h5; omega
  · simp only [Bool.or_eq_true, decide_eq_true_eq, bw_iff] at h5; omega
theorem okT_xs {T kd : Int} {xs : List (Int × Int)} (h : okT T kd xs = true) : (-1 ≤ kd ∧ kd < T) ∧ ∀ p ∈ xs, 0 ≤ p.1 ∧ p.1 < T ∧ 1 ≤ p.2 := by
  simp only [okT, Bool.and_eq_true, decide_eq_true_eq] at h
  refine ⟨h.1, fun p hp => ?_⟩
  have h1 := List.all_eq_true.1 h.2 p hp
  simp only [okX, Bool.and_eq_true, decide_eq_true_eq, lg_iff] at h1
  exact ⟨h1.1.1.1, h1.1.1.2, h1.2.1⟩
/-- a block that holds an input -/
def CelI (w : World) (b : Nat) (v0 v1 v2 : Value) : Prop := w.heap[b]? = some (.cells #[v0, v1, v2] 25 (0, 0))
section
variable {w w' : World} {b : Nat} {v0 v1 v2 : Value}
theorem CelI.c0 (h : CelI w b v0 v1 v2) : w.cell? ⟨b, 0, none⟩ = some v0 := cell_of_row w b 0 _ _ _ h
theorem CelI.c1 (h : CelI w b v0 v1 v2) : w.cell? ⟨b, 1, none⟩ = some v1 := cell_of_row w b 1 _ _ _ h
theorem CelI.c2 (h : CelI w b v0 v1 v2) : w.cell? ⟨b, 2, none⟩ = some v2 := cell_of_row w b 2 _ _ _ h
theorem CelI.fz (h : CelI w b v0 v1 v2) (i : Nat) : w.frozen? ⟨b, i, none⟩ = false := by unfold World.frozen?; rw [h]; simp
theorem CelI.lt (h : CelI w b v0 v1 v2) : b < w.heap.size := (Array.getElem?_eq_some_iff.1 h).1
theorem CelI.fut (h : CelI w b v0 v1 v2) (hf : Fut w w') : CelI w' b v0 v1 v2 := (hf.block b h.lt).trans h
theorem CelI.sets (h : CelI w b v0 v1 v2) (u0 u1 u2 : Value) : CelI (((w.setCell ⟨b, 0, none⟩ u0).setCell ⟨b, 1, none⟩ u1).setCell ⟨b, 2, none⟩ u2) b u0 u1 u2 :=
  block_set _ b 2 _ _ u2 (block_set _ b 1 _ _ u1 (block_set w b 0 _ _ u0 h))
end
theorem sets_fut {w w' : World} {b : Nat} (h : Fut w w') (hb : w.heap.size ≤ b) (u0 u1 u2 : Value) : Fut w (((w'.setCell ⟨b, 0, none⟩ u0).setCell ⟨b, 1, none⟩ u1).setCell ⟨b, 2, none⟩ u2) :=
  ((h.setCell (by simp only; omega) _).setCell (by simp only; omega) _).setCell (by simp only; omega) _
theorem res_cell2 {P : Program} {fn : Func} {p q : Tmp} {ty : TypeId} (h : fn.results = #[.cell p ty, .tmp q]) (tmps : Array Value) (w : World) (g : Nat) (t : TypeId) (cs : Array Value) (fr : Nat × Nat) (d : TypeDesc)
    (hp : tmps.getD p undef = .pointer (some ⟨g, 0, none⟩)) (hg : w.heap[g]? = some (.cells cs t fr))
    (hu : P.underlying ty = some d) (hd : (match d with | .struct _ | .array _ _ => true | _ => false) = true) (hi : (P.info? ty).map (·.size) = some cs.size) :
    (results fn tmps).run P w = .ok (.tuple #[.agg cs, tmps.getD q undef]) w := by
  have hp' : tmps[p]?.getD undef = .pointer (some ⟨g, 0, none⟩) := by simpa using hp
  simp [results, h, hp', asAddr, run_loadVar_row w g t ty cs fr d hg hu hd hi]
theorem of1_any (b0 i : Nat) (X : Option Addr) (m xc : Nat) (cs : List XX) (w : World) (h0 : w.cell? ⟨b0, 0, none⟩ = some (.slice X m xc)) (hl : cs.length = m) (hm : m = 0 ∨ i < m) (hb : m ≤ maxLen) (hR : RdX w X cs) :
    Calls Try.prog 28 #[.int .i64 i, .pointer (some ⟨b0, 0, none⟩)] w fun e w' => (∃ A c, e = .returned (.slice A (cf cs i).length c) ∧ RdS w A 2 encP (cf cs i) ∧ (cf cs i).length ≤ maxLen) ∧ w' = w := by
  have HR := Lib.hid hR
  have HL := Lib.hid hl
  have hb' : m ≤ 9223372036854775807 := hb
  clear hR hl hb
  rcases hm with rfl | hm
  · have HC := Lib.hid (cf_none (i := i) (by rw [HL.out]; exact Nat.zero_le _))
    go_enter Try.func28, Try.ntmps28
    go_wp2_with fail
    go_ret
    rw [HC.out]
    exact ⟨⟨none, 0, rfl, RdS.nil, Nat.zero_le _⟩, rfl⟩
  · obtain ⟨x, hx⟩ := get_lt HL.out hm
    obtain ⟨b, o, rfl, hc⟩ := HR.out.1 i x hx
    obtain ⟨h1, h2⟩ := HR.out.2 x (List.mem_of_getElem? hx)
    have c0 := hc 0 _ (by decide) rfl
    simp only [Nat.mul_one, Nat.add_zero] at c0
    have HX := Lib.hid (cf_get hx)
    have H1 := Lib.hid h1
    have H2 := Lib.hid h2
    have hmi : ((m : Int) = 0) = False := eq_false (by omega)
    have hmb : ((m : Int) == 0) = false := by simp; omega
    clear hx hc h1 h2
    go_enter Try.func28, Try.ntmps28
    go_wp2_with fail
    go_ret
    rw [HX.out]
    exact ⟨⟨_, _, rfl, H1.out, H2.out⟩, rfl⟩
end Go.Proofs.Ytagmpbgidooibaa
