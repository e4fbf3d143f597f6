/-
  Texts joined: Least derivations, as plain mathematics: tight hyperedges, and those that a root reaches; What a root reaches over tight hyperedges, round by round; the reference's tight, walked; The tight hyperedges of a hypergraph, walked; The forest of a node, walked.
-/
import Derived.Test.YtoiffhoiklafhaaBG
import Derived.Test.YtoiffhoiklafhaaBB
import Derived.Test.YtoiffhoiklafhaaBC
import Derived.Test.YtoiffhoiklafhaaBF
import Derived.Test.YtoiffhoiklafhaaBH
/-
  Least derivations, as plain mathematics: tight hyperedges, and those that a root reaches.
-/
namespace Go.Proofs.Ytoiffhoiklafhaa
open PK
theorem encE_len (e : EI) : (encE e).length = 5 := rfl
/-- a hyperedge attains the least value of its head -/
def tgt (V : Nat → VV) (e : EI) : Bool := decide ((V e.h.toNat).c < INF) && decide (ev V (toEE e) = V e.h.toNat)
/-- the tight hyperedges with their places -/
def tP (V : Nat → VV) (es : List EI) : List (EI × Nat) := es.zipIdx.filter (fun p => tgt V p.1)
def tE (V : Nat → VV) (es : List EI) : List EI := (tP V es).map Prod.fst
def tI (V : Nat → VV) (es : List EI) : List Nat := (tP V es).map Prod.snd
/-- of the first j hyperedges -/
def tPk (V : Nat → VV) (es : List EI) (j : Nat) : List (EI × Nat) := (es.zipIdx.take j).filter (fun p => tgt V p.1)
open Classical in
/-- what the root reaches over tight hyperedges -/
noncomputable def rchB (N : Nat) (V : Nat → VV) (es : List EI) (r : Int) (v : Nat) : Bool := decide (0 ≤ r ∧ r < N ∧ Rch (tE V es) r.toNat v)
theorem rchB_iff {N : Nat} {V : Nat → VV} {es : List EI} {r : Int} {v : Nat} : rchB N V es r v = true ↔ 0 ≤ r ∧ r < N ∧ Rch (tE V es) r.toNat v := by
  simp only [rchB, decide_eq_true_eq]
/-- the forest -/
noncomputable def fP (N : Nat) (V : Nat → VV) (es : List EI) (r : Int) : List (EI × Nat) := (tP V es).filter (fun p => rchB N V es r p.1.h.toNat)
noncomputable def fE (N : Nat) (V : Nat → VV) (es : List EI) (r : Int) : List EI := (fP N V es r).map Prod.fst
noncomputable def fI (N : Nat) (V : Nat → VV) (es : List EI) (r : Int) : List Nat := (fP N V es r).map Prod.snd
theorem filt_succ {α : Type} {p : α → Bool} {l : List α} {j : Nat} {x : α} (hx : l[j]? = some x) : (l.take (j + 1)).filter p = if p x = true then (l.take j).filter p ++ [x] else (l.take j).filter p := by
  obtain ⟨hj, rfl⟩ := List.getElem?_eq_some_iff.1 hx
  rw [List.take_succ_eq_append_getElem hj, List.filter_append]
  by_cases h : p l[j] = true
  · simp [h]
  · simp [h]
theorem filt_get {α : Type} {p : α → Bool} : ∀ {l : List α} {k : Nat} {x : α}, l[k]? = some x → p x = true → (l.filter p)[((l.take k).filter p).length]? = some x
  | [], k, x, h, _ => by simp at h
  | a :: l, 0, x, h, hp => by
    simp only [List.getElem?_cons_zero, Option.some.injEq] at h
    subst h
    simp [hp]
  | a :: l, k + 1, x, h, hp => by
    rw [List.getElem?_cons_succ] at h
    have ih := filt_get h hp
    rw [List.take_succ_cons]
    by_cases ha : p a = true
    · rw [List.filter_cons_of_pos ha, List.filter_cons_of_pos ha, List.length_cons, List.getElem?_cons_succ]; exact ih
    · rw [List.filter_cons_of_neg ha, List.filter_cons_of_neg ha]; exact ih
theorem zip_at {es : List EI} {k : Nat} {e : EI} (h : es[k]? = some e) : es.zipIdx[k]? = some (e, k) := by
  rw [List.getElem?_zipIdx, h]; simp
theorem zip_mem {es : List EI} {p : EI × Nat} (h : p ∈ es.zipIdx) : es[p.2]? = some p.1 := by
  obtain ⟨i, hi⟩ := List.mem_iff_getElem?.1 h
  rw [List.getElem?_zipIdx] at hi
  cases he : es[i]? with
  | none => rw [he] at hi; cases hi
  | some e =>
    rw [he] at hi
    simp only [Option.map_some, Option.some.injEq] at hi
    subst hi
    simpa using he
theorem tPk_succ {V : Nat → VV} {es : List EI} {j : Nat} {e : EI} (h : es[j]? = some e) : tPk V es (j + 1) = if tgt V e = true then tPk V es j ++ [(e, j)] else tPk V es j := by
  unfold tPk; rw [filt_succ (zip_at h)]
theorem tPk_all {V : Nat → VV} {es : List EI} {j : Nat} (h : es.length ≤ j) : tPk V es j = tP V es := by
  unfold tPk tP; rw [List.take_of_length_le (by rw [List.length_zipIdx]; exact h)]
theorem tPk_len {V : Nat → VV} {es : List EI} {j : Nat} : (tPk V es j).length ≤ j := by
  unfold tPk
  exact Nat.le_trans (List.length_filter_le _ _) (by rw [List.length_take]; omega)
theorem tPk_mem {V : Nat → VV} {es : List EI} {j : Nat} {p : EI × Nat} (h : p ∈ tPk V es j) : p.1 ∈ es ∧ p.2 < j ∧ tgt V p.1 = true := by
  unfold tPk at h
  obtain ⟨h1, h2⟩ := List.mem_filter.1 h
  obtain ⟨i, hi⟩ := List.mem_iff_getElem?.1 h1
  have hij : i < j := by
    have := (List.getElem?_eq_some_iff.1 hi).1
    rw [List.length_take] at this
    omega
  rw [List.getElem?_take, if_pos hij, List.getElem?_zipIdx] at hi
  cases he : es[i]? with
  | none => rw [he] at hi; cases hi
  | some e =>
    rw [he] at hi
    simp only [Option.map_some, Option.some.injEq] at hi
    subst hi
    exact ⟨List.mem_of_getElem? he, by simpa using hij, h2⟩
theorem tE_eq (V : Nat → VV) (es : List EI) : tE V es = es.filter (tgt V) := by
  unfold tE tP
  have : ∀ (l : List EI) (k : Nat), ((l.zipIdx k).filter (fun p => tgt V p.1)).map Prod.fst = l.filter (tgt V) := by
    intro l
    induction l with
    | nil => intro k; rfl
    | cons a l ih =>
      intro k
      rw [List.zipIdx_cons]
      by_cases h : tgt V a = true
      · rw [List.filter_cons_of_pos (by exact h), List.filter_cons_of_pos h, List.map_cons, ih]
      · rw [List.filter_cons_of_neg (by exact h), List.filter_cons_of_neg h, ih]
  exact this es 0
theorem mem_tP {V : Nat → VV} {es : List EI} {p : EI × Nat} : p ∈ tP V es ↔ es[p.2]? = some p.1 ∧ tgt V p.1 = true := by
  unfold tP
  rw [List.mem_filter]
  constructor
  · rintro ⟨h1, h2⟩; exact ⟨zip_mem h1, h2⟩
  · rintro ⟨h1, h2⟩; exact ⟨List.mem_of_getElem? (zip_at h1), h2⟩
theorem mem_tE {V : Nat → VV} {es : List EI} {e : EI} : e ∈ tE V es ↔ e ∈ es ∧ tgt V e = true := by rw [tE_eq, List.mem_filter]
theorem mem_fP {N : Nat} {V : Nat → VV} {es : List EI} {r : Int} {p : EI × Nat} : p ∈ fP N V es r ↔ es[p.2]? = some p.1 ∧ tgt V p.1 = true ∧ rchB N V es r p.1.h.toNat = true := by
  unfold fP
  rw [List.mem_filter, mem_tP, and_assoc]
theorem fE_len (N : Nat) (V : Nat → VV) (es : List EI) (r : Int) : (fE N V es r).length = (fI N V es r).length := by simp [fE, fI]
theorem fE_le (N : Nat) (V : Nat → VV) (es : List EI) (r : Int) : (fE N V es r).length ≤ es.length := by
  simp only [fE, fP, tP, List.length_map]
  refine Nat.le_trans (List.length_filter_le _ _) (Nat.le_trans (List.length_filter_le _ _) ?_)
  rw [List.length_zipIdx]
  exact Nat.le_refl _
theorem tE_le (V : Nat → VV) (es : List EI) : (tE V es).length ≤ es.length := by rw [tE_eq]; exact List.length_filter_le _ _
theorem mem_fE {N : Nat} {V : Nat → VV} {es : List EI} {r : Int} {e : EI} : e ∈ fE N V es r ↔ e ∈ es ∧ tgt V e = true ∧ rchB N V es r e.h.toNat = true := by
  unfold fE
  rw [List.mem_map]
  constructor
  · rintro ⟨p, hp, rfl⟩
    obtain ⟨h1, h2, h3⟩ := mem_fP.1 hp
    exact ⟨List.mem_of_getElem? h1, h2, h3⟩
  · rintro ⟨h1, h2, h3⟩
    obtain ⟨i, hi⟩ := List.mem_iff_getElem?.1 h1
    exact ⟨(e, i), mem_fP.2 ⟨hi, h2, h3⟩, rfl⟩
/-- what is reached at once from what is reached -/
theorem rchB_step {N : Nat} {V : Nat → VV} {es : List EI} {r : Int} {e : EI} (he : e ∈ es) (ht : tgt V e = true) (hr : rchB N V es r e.h.toNat = true) {t : Int} (hm : t ∈ e.t) : rchB N V es r t.toNat = true := by
  obtain ⟨h1, h2, h3⟩ := rchB_iff.1 hr
  exact rchB_iff.2 ⟨h1, h2, .step h3 (mem_tE.2 ⟨he, ht⟩) rfl hm⟩
theorem rchB_root {N : Nat} {V : Nat → VV} {es : List EI} {r : Int} (h0 : 0 ≤ r) (h1 : r < N) : rchB N V es r r.toNat = true := rchB_iff.2 ⟨h0, h1, .root⟩
/-- the forest's, of the first j hyperedges -/
noncomputable def fPk (N : Nat) (V : Nat → VV) (es : List EI) (r : Int) (j : Nat) : List (EI × Nat) := (es.zipIdx.take j).filter (fun p => rchB N V es r p.1.h.toNat && tgt V p.1)
theorem fPk_succ {N : Nat} {V : Nat → VV} {es : List EI} {r : Int} {j : Nat} {e : EI} (h : es[j]? = some e) : fPk N V es r (j + 1) = if (rchB N V es r e.h.toNat && tgt V e) = true then fPk N V es r j ++ [(e, j)] else fPk N V es r j := by
  unfold fPk; rw [filt_succ (zip_at h)]
theorem fPk_all {N : Nat} {V : Nat → VV} {es : List EI} {r : Int} {j : Nat} (h : es.length ≤ j) : fPk N V es r j = fP N V es r := by
  unfold fPk fP tP; rw [List.take_of_length_le (by rw [List.length_zipIdx]; exact h), List.filter_filter]
theorem fPk_len {N : Nat} {V : Nat → VV} {es : List EI} {r : Int} {j : Nat} : (fPk N V es r j).length ≤ j := by
  unfold fPk
  exact Nat.le_trans (List.length_filter_le _ _) (by rw [List.length_take]; omega)
theorem tP_mem {V : Nat → VV} {es : List EI} {p : EI × Nat} (h : p ∈ tP V es) : p.1 ∈ es := List.mem_of_getElem? (mem_tP.1 h).1
theorem fP_mem {N : Nat} {V : Nat → VV} {es : List EI} {r : Int} {p : EI × Nat} (h : p ∈ fP N V es r) : p.1 ∈ es := List.mem_of_getElem? (mem_fP.1 h).1
/-! ### sizes -/
theorem fold_s : ∀ (l : List VV) (p : Int × Int), (∀ v ∈ l, okV v) → 0 ≤ p.2 → (l.foldl combG p).2 < INF → (l.foldl combG p).2 = p.2 + (l.map VV.s).sum
  | [], p, _, _, _ => by simp
  | v :: l, p, hl, h0, h => by
    obtain ⟨k1, k2, k3, k4, _⟩ := hl v (by simp)
    rw [List.foldl_cons] at h ⊢
    have h1 : 0 ≤ (combG p v).2 := by unfold combG INF; simp only; omega
    have hbd : (combG p v).2 ≤ (l.foldl combG (combG p v)).2 := by
      have : ∀ (l : List VV) (q : Int × Int), (∀ v ∈ l, okV v) → 0 ≤ q.2 → q.2 ≤ INF → q.2 ≤ (l.foldl combG q).2 := by
        intro l
        induction l with
        | nil => intro q _ _ _; exact Int.le_refl _
        | cons x l ih =>
          intro q hx h0 hq
          obtain ⟨_, _, k3, k4, _⟩ := hx x (by simp)
          rw [List.foldl_cons]
          have := ih (combG q x) (fun v hv => hx v (by simp [hv])) (by unfold combG INF; simp only; omega) (by unfold combG; simp only; omega)
          refine Int.le_trans ?_ this
          unfold combG; simp only; omega
      exact this l _ (fun x hx => hl x (by simp [hx])) h1 (by unfold combG; simp only; omega)
    have ih := fold_s l (combG p v) (fun x hx => hl x (by simp [hx])) h1 h
    rw [ih, List.map_cons, List.sum_cons]
    have h2 : (combG p v).2 < INF := by omega
    have : (combG p v).2 = p.2 + v.s := by unfold combG at h2 ⊢; simp only at h2 ⊢; omega
    rw [this]; omega
theorem sum_ge {l : List VV} (hl : ∀ v ∈ l, okV v) {v : VV} (hv : v ∈ l) : v.s ≤ (l.map VV.s).sum := by
  induction l with
  | nil => simp at hv
  | cons a l ih =>
    have hn : 0 ≤ (l.map VV.s).sum := by
      have : ∀ (l : List VV), (∀ v ∈ l, okV v) → 0 ≤ (l.map VV.s).sum := by
        intro l
        induction l with
        | nil => intro _; simp
        | cons b l ih => intro h; have := ih (fun v hv => h v (by simp [hv])); have := (h b (by simp)).2.2.1; simp only [List.map_cons, List.sum_cons]; omega
      exact this l (fun v hv => hl v (by simp [hv]))
    simp only [List.map_cons, List.sum_cons]
    rcases List.mem_cons.1 hv with rfl | h
    · omega
    · have := ih (fun v hv => hl v (by simp [hv])) h
      have := (hl a (by simp)).2.2.1
      omega
/-- the tails of a tight hyperedge are smaller than its head -/
theorem tgt_tail {V : Nat → VV} {e : EI} (hV : ∀ v, okV (V v)) (hs : (V e.h.toNat).s < INF) (h : tgt V e = true) {t : Int} (ht : t ∈ e.t) : (V t.toNat).s < (V e.h.toNat).s := by
  simp only [tgt, Bool.and_eq_true, decide_eq_true_eq] at h
  obtain ⟨h1, h2⟩ := h
  have hl : ∀ v ∈ (toEE e).t.map V, okV v := fun v hv => by
    obtain ⟨x, _, rfl⟩ := List.mem_map.1 hv
    exact hV x
  have hm : V t.toNat ∈ (toEE e).t.map V := List.mem_map.2 ⟨t.toNat, List.mem_map.2 ⟨t, ht, rfl⟩, rfl⟩
  unfold ev comb at h2
  split at h2
  · rw [← h2] at h1
    unfold top at h1
    exact absurd h1 (by simp)
  · have h3 : (((toEE e).t.map V).foldl combG ((toEE e).c, 1)).2 = (V e.h.toNat).s := by rw [← h2]
    have h4 := fold_s _ ((toEE e).c, 1) hl (show (0 : Int) ≤ 1 by decide) (by rw [h3]; exact hs)
    rw [h3] at h4
    have := sum_ge hl hm
    simp only at h4
    omega
theorem own_apart {w : World} {B B2 s1 s2 n1 n2 : Nat} {E1 E2 : TypeId} {v1 v2 : Value} {x1 x2 : List Value} (h1 : w.ownsRow B E1 s1 v1 n1 x1) (h2 : w.ownsRow B2 E2 s2 v2 n2 x2) (hE : E1 ≠ E2) : v1.ownBlock = none ∨ v1.ownBlock ≠ v2.ownBlock := by
  obtain ⟨_, ⟨rfl, _⟩ | ⟨g, cap, cur, rfl, _, hg, _⟩⟩ := h1
  · exact .inl rfl
  · obtain ⟨_, ⟨rfl, _⟩ | ⟨g2, cap2, cur2, rfl, _, hg2, _⟩⟩ := h2
    · exact .inr (fun e => by cases e)
    · refine .inr (fun e => hE ?_)
      have e2 : g = g2 := by injection e
      subst e2
      rw [hg] at hg2
      injection hg2 with hg2
      injection hg2
end Go.Proofs.Ytoiffhoiklafhaa
/-
  What a root reaches over tight hyperedges, round by round; the reference's tight, walked.
-/
namespace Go.Proofs.Ytoiffhoiklafhaa
open Go.RowKit Go.Deep PK
attribute [local go_sem] Oper.lit Oper.litS fut_fut fut_drew World.cell?_alloc_some
attribute [local go_sem] fut_base_drew
/-- a round of the reference's Tight: k hyperedges are seen -/
structure RQ (N : Nat) (V : Nat → VV) (es : List EI) (r : Int) (k : Nat) (O0 O : Nat → Bool) (b : Bool) : Prop where
  a : ∀ v, O v = true → rchB N V es r v = true
  d : 0 ≤ r → r < N → O r.toNat = true
  f : b = false → O = O0 ∧ ∀ (i : Nat) (e : EI), i < k → es[i]? = some e → tgt V e = true → O e.h.toNat = true → ∀ t ∈ e.t, O t.toNat = true
  t : b = true → nF N O < nF N O0
  le : nF N O ≤ nF N O0
section
variable {N : Nat} {V : Nat → VV} {es : List EI} {r : Int} {k : Nat} {O0 O : Nat → Bool} {b : Bool}
theorem RQ.start (h : ∀ v, O v = true → rchB N V es r v = true) (hd : 0 ≤ r → r < N → O r.toNat = true) : RQ N V es r 0 O O false :=
  ⟨h, hd, fun _ => ⟨rfl, fun i e hi => (by omega)⟩, fun h => (by cases h), Nat.le_refl _⟩
theorem RQ.mark (h : RQ N V es r k O0 O b) {t : Nat} (htN : t < N) (ho : O t = false) (hr : rchB N V es r t = true) : RQ N V es r k O0 (upd O t true) true := by
  have h1 := nF_upd N _ O htN ho
  refine ⟨fun v hv => ?_, fun h0 h1 => upd_mono (h.d h0 h1), fun h => (by cases h), fun _ => (by have := h.le; omega), by have := h.le; omega⟩
  rcases upd_true hv with rfl | hv
  · exact hr
  · exact h.a v hv
theorem upd_id {t : Nat} (ho : O t = true) : upd O t true = O := by
  funext i
  unfold upd
  by_cases e : i = t
  · subst e; rw [if_pos rfl, ho]
  · rw [if_neg e]
theorem RQ.next (h : RQ N V es r k O0 O b) {e : EI} (he : es[k]? = some e) (hs : tgt V e = true → O e.h.toNat = true → ∀ t ∈ e.t, O t.toNat = true) : RQ N V es r (k + 1) O0 O b :=
  ⟨h.a, h.d, fun hb => ⟨(h.f hb).1, fun i f hi hf => by
    by_cases e1 : i = k
    · subst e1
      rw [he] at hf
      obtain rfl := Option.some.inj hf
      exact hs
    · exact (h.f hb).2 i f (by omega) hf⟩, h.t, h.le⟩
theorem RQ.done (h : RQ N V es r es.length O0 O false) : ∀ v, O v = true ↔ rchB N V es r v = true := fun v => ⟨h.a v, fun hd => by
  obtain ⟨h1, h2, h3⟩ := rchB_iff.1 hd
  induction h3 with
  | root => exact h.d h1 h2
  | step hv he hh ht ih =>
    obtain ⟨m1, m2⟩ := mem_tE.1 he
    obtain ⟨i, hi⟩ := List.mem_iff_getElem?.1 m1
    exact (h.f rfl).2 i _ (List.getElem?_eq_some_iff.1 hi).1 hi m2 (by rw [hh]; exact ih (rchB_iff.2 ⟨h1, h2, hv⟩)) _ ht⟩
end
set_option maxHeartbeats 3200000 in
set_option maxRecDepth 4000 in
theorem rtight_any (vb N : Nat) (V : Nat → VV) (e : EI) (w : World) (hv : RowV w vb N V) (hN : N ≤ 1048576) (hV : ∀ v, okV (V v)) (hh : 0 ≤ e.h ∧ e.h < N) (hc : 0 ≤ e.c ∧ e.c ≤ INF)
    (ht : ∀ t ∈ e.t, 0 ≤ t ∧ t < (N : Int)) (hl : e.t.length ≤ 1000000) (hR : Rd1 w e.A (.int .i64 ·) e.t) :
    Calls Try.prog 35 #[.agg #[.int .i64 e.h, .slice e.A e.t.length e.k, .int .i64 e.c, .int .i64 e.l0, .int .i64 e.l1], .slice (some ⟨vb, 0, none⟩) N N] w fun r w' => r = .returned (.bool (tgt V e)) ∧ Below w.heap.size w w' := by
  obtain ⟨xh, xt, xc, xl0, xl1, xA, xk⟩ := e
  simp only at hh hc ht hl hR ⊢
  obtain ⟨h9, rfl⟩ : ∃ h : Nat, xh = h := ⟨xh.toNat, by omega⟩
  have hh9 : h9 < N := by omega
  obtain ⟨wx, hwx⟩ : ∃ wx, wx = w.alloc (.cells #[.int .i64 (h9 : Int), .slice xA xt.length xk, .int .i64 xc, .int .i64 xl0, .int .i64 xl1] 49) := ⟨_, rfl⟩
  have HF := Lib.hid (show Fut w wx from by rw [hwx]; exact (Fut.refl w).alloc _)
  have HB := Lib.hid (show Blk wx w.heap.size 49 #[.int .i64 (h9 : Int), .slice xA xt.length xk, .int .i64 xc, .int .i64 xl0, .int .i64 xl1] from by rw [hwx]; exact heap_new' _ _ _ rfl)
  have HRV := Lib.hid (hv.fut HF.out)
  have HTA := Lib.hid (fun w' (hf : Fut wx w') => rtails_any vb N V ⟨(h9 : Int), xt, xc, xl0, xl1, xA, xk⟩ w' (HRV.out.fut hf) hN ht (by simp only; omega) ((hR.fut HF.out).fut hf))
  have HCM := Lib.hid (fun w' TA tc (hrd : RdS w' TA 2 encV ((xt.map Int.toNat).map V)) => rcombine_any xc TA xt.length tc ((xt.map Int.toNat).map V) w' (by rw [List.length_map, List.length_map]) (by unfold maxLen; omega) hc (fun v hv => by
    obtain ⟨t, _, rfl⟩ := List.mem_map.1 hv
    exact hV t) hrd)
  have y0 := cell_fut (HB.out.cell (i := 0) rfl)
  have y1 := cell_fut (HB.out.cell (i := 1) rfl)
  have y2 := cell_fut (HB.out.cell (i := 2) rfl)
  have y3 := cell_fut (HB.out.cell (i := 3) rfl)
  have y4 := cell_fut (HB.out.cell (i := 4) rfl)
  have t3 := cell_fut (HRV.out.c hh9)
  have t4 := cell_fut (HRV.out.s hh9)
  obtain ⟨zc, hzc⟩ : ∃ z, z = (V h9).c := ⟨_, rfl⟩
  obtain ⟨zs, hzs⟩ : ∃ z, z = (V h9).s := ⟨_, rfl⟩
  rw [← hzc] at t3
  rw [← hzs] at t4
  obtain ⟨y, hy⟩ : ∃ y, y = ev V (toEE ⟨(h9 : Int), xt, xc, xl0, xl1, xA, xk⟩) := ⟨_, rfl⟩
  obtain ⟨yc, ys⟩ := y
  have HY := Lib.hid hy
  have hTG : tgt V ⟨(h9 : Int), xt, xc, xl0, xl1, xA, xk⟩ = (decide (zc < INF) && decide ((⟨yc, ys⟩ : VV) = ⟨zc, zs⟩)) := by
    simp only [tgt, Int.toNat_natCast]; rw [hzc, hzs, ← hy]
  have HTG := Lib.hid hTG
  have hxl : xt.length ≤ 9223372036854775807 := by omega
  clear hzc hzs hy hTG hv hV hh hc ht hR
  go_enter Try.func35, Try.ntmps35
  go_wp2_with fail
  rw [← hwx]
  clear hwx
  by_cases hfin : zc < 1099511627776
  · have hd : Hid (yc = zc ∧ ys = zs) ∨ (Hid (¬ ys = zs) ∧ Hid (yc = zc)) ∨ Hid (¬ yc = zc) := by
      by_cases h1 : yc = zc
      · by_cases h2 : ys = zs
        · exact .inl (Lib.hid ⟨h1, h2⟩)
        · exact .inr (.inl ⟨Lib.hid h2, Lib.hid h1⟩)
      · exact .inr (.inr (Lib.hid h1))
    have HFN := Lib.hid (show zc < INF from hfin)
    rcases hd with hd | ⟨hd, hd2⟩ | hd
    · have k1 : (yc = zc) = True := eq_true hd.out.1
      have k2 : (ys = zs) = True := eq_true hd.out.2
      refine wp_region_M o_emendateref32_tight_1 (by kernel_rfl) (by kernel_rfl) (by intro c a d v w h; cases d <;> exact h) ?_; unfold o_emendateref32_tight_1
      iterate 17 (refine wpF_h rfl rfl (fun K hK => ?_); go_simp; refine hK _ _ ?_; clear hK K)
      refine wpF_o rfl rfl (fun K hK => ?_)
      go_simp
      go_at_call 45
      refine (HTA.out _ (Fut.refl wx).drew).mono ?_
      rintro r wt ⟨⟨TA, tc, rfl, hrd⟩, hbt⟩
      have ht0 : Fut wx wt := (Fut.refl wx).drew.trans hbt
      refine hK _ _ (.inr hbt) ?_
      clear hK K hbt
      refine wpF_o rfl rfl (fun K hK => ?_)
      go_simp
      go_at_call 44
      refine (HCM.out _ _ _ hrd).mono ?_
      rintro r wc ⟨hr, hbc⟩
      rw [show comb xc ((xt.map Int.toNat).map V) = ⟨yc, ys⟩ from HY.out.symm] at hr
      subst hr
      have HFC := Lib.hid (show Fut wx wc from ht0.trans hbc)
      refine hK _ _ (.inr hbc) ?_
      clear hK K hrd ht0 hbc
      iterate 3 (refine wpF_h rfl rfl (fun K hK => ?_); go_simp; refine hK _ _ ?_; clear hK K)
      refine wpF_nil ?_
      go_wp2_with fail
      go_ret
      exact ⟨by rw [HTG.out]; simp [HFN.out, hd.out.1, hd.out.2], HF.out.trans HFC.out⟩
    · have k1 : (yc = zc) = True := eq_true hd2.out
      have k2 : (ys = zs) = False := eq_false hd.out
      have HTF := Lib.hid (show (decide (zc < INF) && decide ((⟨yc, ys⟩ : VV) = ⟨zc, zs⟩)) = false from by simp [hd.out])
      refine wp_region_M o_emendateref32_tight_1 (by kernel_rfl) (by kernel_rfl) (by intro c a d v w h; cases d <;> exact h) ?_; unfold o_emendateref32_tight_1
      iterate 17 (refine wpF_h rfl rfl (fun K hK => ?_); go_simp; refine hK _ _ ?_; clear hK K)
      refine wpF_o rfl rfl (fun K hK => ?_)
      go_simp
      go_at_call 45
      refine (HTA.out _ (Fut.refl wx).drew).mono ?_
      rintro r wt ⟨⟨TA, tc, rfl, hrd⟩, hbt⟩
      have ht0 : Fut wx wt := (Fut.refl wx).drew.trans hbt
      refine hK _ _ (.inr hbt) ?_
      clear hK K hbt
      refine wpF_o rfl rfl (fun K hK => ?_)
      go_simp
      go_at_call 44
      refine (HCM.out _ _ _ hrd).mono ?_
      rintro r wc ⟨hr, hbc⟩
      rw [show comb xc ((xt.map Int.toNat).map V) = ⟨yc, ys⟩ from HY.out.symm] at hr
      subst hr
      have HFC := Lib.hid (show Fut wx wc from ht0.trans hbc)
      refine hK _ _ (.inr hbc) ?_
      clear hK K hrd ht0 hbc
      iterate 3 (refine wpF_h rfl rfl (fun K hK => ?_); go_simp; refine hK _ _ ?_; clear hK K)
      refine wpF_nil ?_
      go_wp2_with fail
      go_ret
      exact ⟨by rw [HTG.out, HTF.out]; simp, HF.out.trans HFC.out⟩
    · have k1 : (yc = zc) = False := eq_false hd.out
      have HTF := Lib.hid (show (decide (zc < INF) && decide ((⟨yc, ys⟩ : VV) = ⟨zc, zs⟩)) = false from by simp [hd.out])
      refine wp_region_M o_emendateref32_tight_1 (by kernel_rfl) (by kernel_rfl) (by intro c a d v w h; cases d <;> exact h) ?_; unfold o_emendateref32_tight_1
      iterate 17 (refine wpF_h rfl rfl (fun K hK => ?_); go_simp; refine hK _ _ ?_; clear hK K)
      refine wpF_o rfl rfl (fun K hK => ?_)
      go_simp
      go_at_call 45
      refine (HTA.out _ (Fut.refl wx).drew).mono ?_
      rintro r wt ⟨⟨TA, tc, rfl, hrd⟩, hbt⟩
      have ht0 : Fut wx wt := (Fut.refl wx).drew.trans hbt
      refine hK _ _ (.inr hbt) ?_
      clear hK K hbt
      refine wpF_o rfl rfl (fun K hK => ?_)
      go_simp
      go_at_call 44
      refine (HCM.out _ _ _ hrd).mono ?_
      rintro r wc ⟨hr, hbc⟩
      rw [show comb xc ((xt.map Int.toNat).map V) = ⟨yc, ys⟩ from HY.out.symm] at hr
      subst hr
      have HFC := Lib.hid (show Fut wx wc from ht0.trans hbc)
      refine hK _ _ (.inr hbc) ?_
      clear hK K hrd ht0 hbc
      iterate 3 (refine wpF_h rfl rfl (fun K hK => ?_); go_simp; refine hK _ _ ?_; clear hK K)
      refine wpF_nil ?_
      go_wp2_with fail
      go_ret
      exact ⟨by rw [HTG.out, HTF.out]; simp, HF.out.trans HFC.out⟩
  · have HTF := Lib.hid (show (decide (zc < INF) && decide ((⟨yc, ys⟩ : VV) = ⟨zc, zs⟩)) = false from by rw [decide_eq_false (show ¬ zc < INF from hfin)]; rfl)
    refine wp_region_M o_emendateref32_tight_1 (by kernel_rfl) (by kernel_rfl) (by intro c a d v w h; cases d <;> exact h) ?_; unfold o_emendateref32_tight_1
    iterate 8 (refine wpF_h rfl rfl (fun K hK => ?_); go_simp; refine hK _ _ ?_; clear hK K)
    iterate 9 (refine wpF_hs2 rfl rfl (fun K hK => ?_); go_simp; refine hK _ _ ?_; clear hK K)
    iterate 2 (refine wpF_os2 rfl rfl (fun K hK => ?_); go_simp; refine hK _ _ ?_; clear hK K)
    (refine wpF_hs2 rfl rfl (fun K hK => ?_); go_simp; refine hK _ _ ?_; clear hK K)
    iterate 2 (refine wpF_h rfl rfl (fun K hK => ?_); go_simp; refine hK _ _ ?_; clear hK K)
    refine wpF_nil ?_
    go_wp2_with fail
    go_ret
    exact ⟨by rw [HTG.out, HTF.out]; simp, HF.out.drew⟩
end Go.Proofs.Ytoiffhoiklafhaa
/-
  The tight hyperedges of a hypergraph, walked.
-/
namespace Go.Proofs.Ytoiffhoiklafhaa
open Go.RowKit Go.Deep PK
attribute [local go_sem] Oper.lit Oper.litS fut_fut fut_drew World.cell?_alloc_some
attribute [local go_sem] fut_base_drew World.frozen?_setCell
theorem info_ee : (Try.prog.info? 49).map (fun i => (i.zero, i.size, i.bytes)) = some (some (.agg #[.int .i64 0, .slice none 0 0, .int .i64 0, .int .i64 0, .int .i64 0]), 5, 56) := by kernel_rfl
theorem ftight_res : Try.f33.results = #[.cell 2 24, .tmp 3] := by kernel_rfl
set_option maxHeartbeats 12800000 in
set_option maxRecDepth 4000 in
theorem ftight_any (N : Nat) (A : Option Addr) (n c : Nat) (es : List EI) (w : World) (V : Nat → VV) (hS : Sol (EEs es) V) (hl : es.length = n) (hn : n ≤ 1000) (hvd : validB N es = true) (htl : ∀ e ∈ es, e.t.length ≤ 4) (hR : RdE w A es) :
    Calls Try.prog 33 #[hv N A n c] w fun r w' => (∃ XA Xc FA Fc, r = .returned (.tuple #[hv N XA (tP V es).length Xc, .slice FA (tP V es).length Fc]) ∧ RdE w' XA (tE V es) ∧ Rd1 w' FA nv (tI V es)) ∧ Below w.heap.size w w' := by
  obtain ⟨v1, v2, v3⟩ := validB_parts hvd
  have hN2 : N ≤ 1048576 := by omega
  have HVE := Lib.hid v3
  have HL := Lib.hid hl
  have HTL := Lib.hid htl
  have HSO := Lib.hid hS
  have HSV := Lib.hid (fun w' (hf : Fut w w') => solve_any N A n c es w' hl (by omega) hvd (fun e he => by have := htl e he; omega) (hR.fut hf))
  have HR := Lib.hid hR
  clear v1 v2 v3 hl hS hR hvd htl
  obtain ⟨wb, hwb⟩ : ∃ wb, wb = (w.alloc (.cells #[.int .i64 N, .slice A n c] 24)).alloc (.cells #[.int .i64 0, .slice none 0 0] 24) := ⟨_, rfl⟩
  have HF := Lib.hid (show Fut w wb from by rw [hwb]; exact ((Fut.refl w).alloc _).alloc _)
  have HB := Lib.hid (show Blk wb w.heap.size 24 #[.int .i64 N, .slice A n c] from by rw [hwb]; (repeat (first | exact heap_new' _ _ _ (by first | rfl | (simp only [World.size_alloc])) | refine (blk_alloc_lt _ _ _ (by first | omega | (simp only [World.size_alloc]; omega))).trans ?_)))
  have HZ := Lib.hid (show Blk wb (w.heap.size + 1) 24 #[.int .i64 0, .slice none 0 0] from by rw [hwb]; (repeat (first | exact heap_new' _ _ _ (by first | rfl | (simp only [World.size_alloc])) | refine (blk_alloc_lt _ _ _ (by first | omega | (simp only [World.size_alloc]; omega))).trans ?_)))
  go_enter Try.func33, Try.ntmps33
  go_wp2_with fail
  rw [← hwb]
  clear hwb
  have q0 := HB.out.cell (i := 0) rfl
  have q1 := HB.out.cell (i := 1) rfl
  go_wp2_with fail
  refine (HSV.out _ HF.out).mono ?_
  rintro r w1 ⟨⟨V', vb, eb0, rfl, hsol, hrow, _, hvb, _⟩, hb⟩
  obtain rfl := HSO.out.unique hsol
  have HF1 := Lib.hid (show Fut wb w1 from hb)
  have HRV := Lib.hid hrow
  clear hb hsol hrow HSV hvb
  have q0 := HF1.out.cell q0
  have q1 := HF1.out.cell q1
  go_wp2_with fail
  obtain ⟨xb, hxb⟩ : ∃ xb, xb = w1.heap.size := ⟨_, rfl⟩
  rw [← hxb]
  obtain ⟨w2, hw2⟩ : ∃ w2, w2 = w1.alloc (.cells #[.int .i64 N, .slice none 0 0] 24) := ⟨_, rfl⟩
  have HXB := Lib.hid (show Blk w2 xb 24 #[.int .i64 N, .slice none 0 0] from by rw [hw2, hxb]; exact heap_new' _ _ _ rfl)
  have HFO := Lib.hid (show Fut w1 w2 from by rw [hw2]; exact (Fut.refl w1).alloc _)
  have HXS := Lib.hid (show xb + 1 ≤ w2.heap.size from by rw [hw2, World.size_alloc, hxb]; exact Nat.le_refl _)
  have hxw : w1.heap.size ≤ xb := by omega
  rw [← hw2]
  clear hw2 hxb q0 q1
  go_loopw [7, 25] (fun f i wr => ∃ (j m : Nat) (XA FA : Option Addr) (Xc Fc : Nat), j ≤ n ∧ f = .slice FA m Fc ∧ i = .int .i64 j ∧ Hid (m = (tPk V es j).length) ∧ Hid (Blk wr xb 24 #[.int .i64 N, .slice XA m Xc]) ∧ Hid (wr.ownsRow (xb + 1) 49 5 (.slice XA m Xc) m (((tPk V es j).map Prod.fst).flatMap encE)) ∧ Hid (wr.ownsRow (xb + 1) 3 1 (.slice FA m Fc) m ((tPk V es j).map (fun p => nv p.2))) ∧ Hid (Fut w1 wr)) (fun _ i _ => n - (intOf i).toNat)
  case atStart => exact ⟨0, 0, none, none, 0, 0, Nat.zero_le _, rfl, rfl, Lib.hid rfl, HXB, Lib.hid (World.ownsRow_nil _ _ _ _), Lib.hid (World.ownsRow_nil _ _ _ _), HFO⟩
  case round =>
    clear HXB HFO
    obtain ⟨j, m, XA, FA, Xc, Fc, hj, rfl, rfl, HM, HXB, HXO, HFW, HFO⟩ := hrel
    obtain ⟨wo, rfl⟩ : ∃ x, x = wr := ⟨_, rfl⟩
    have HXS := Lib.hid (show xb + 1 ≤ wo.heap.size from HXB.out.lt)
    by_cases hlt : j < n
    · obtain ⟨x, hx⟩ := get_lt HL.out (show j < n by omega)
      have hxm := List.mem_of_getElem? hx
      obtain ⟨x1, x2, x3, x4, x5⟩ := okE_parts (HVE.out x hxm)
      obtain ⟨b2, o2, rfl, hc⟩ := (HR.out.fut ((HF.out.trans HF1.out).trans HFO.out)).1 j x hx
      obtain ⟨ht, htm⟩ := (HR.out.fut ((HF.out.trans HF1.out).trans HFO.out)).2 x hxm
      have htl := HTL.out x hxm
      obtain ⟨xh, xt, xc, xl0, xl1, xA, xk⟩ := x
      simp only at x1 x2 x3 x4 x5 htl ht htm
      obtain ⟨h9, rfl⟩ : ∃ h : Nat, xh = h := ⟨xh.toNat, by omega⟩
      have hh9 : h9 < N := by omega
      have c0 := hc 0 _ (by decide) rfl
      have c1 := hc 1 _ (by decide) rfl
      have c2 := hc 2 _ (by decide) rfl
      have c3 := hc 3 _ (by decide) rfl
      have c4 := hc 4 _ (by decide) rfl
      simp only [Nat.add_zero] at c0
      obtain ⟨tl, htl'⟩ : ∃ tl, xt.length = tl := ⟨_, rfl⟩
      rw [htl'] at c1 htl htm
      have HTN := Lib.hid htl'
      have htl63 : tl ≤ 9223372036854775807 := by omega
      have HX := Lib.hid hx
      have HXM := Lib.hid hxm
      have HT := Lib.hid ht
      have HXC := Lib.hid (show 0 ≤ xc ∧ xc ≤ INF from ⟨x3, x4⟩)
      have HX5 := Lib.hid x5
      clear hx hxm hc ht x5 x1 x2 x3 x4 htl'
      have hmk := run_make_vv tl (by omega)
      go_wp2_with fail
      obtain ⟨eb, heb⟩ : ∃ eb, eb = wo.heap.size := ⟨_, rfl⟩
      rw [← heb]
      obtain ⟨lb, hlb⟩ : ∃ lb, lb = eb + 1 := ⟨_, rfl⟩
      rw [← hlb]
      obtain ⟨wi, hwi⟩ : ∃ wi, wi = (wo.alloc (.cells #[.int .i64 (h9 : Int), .slice xA tl xk, .int .i64 xc, .int .i64 xl0, .int .i64 xl1] 49)).alloc (.cells (madeCells #[.int .i64 0, .int .i64 0] (tl * 2)) 46) := ⟨_, rfl⟩
      have HEB := Lib.hid (show Blk wi eb 49 #[.int .i64 (h9 : Int), .slice xA tl xk, .int .i64 xc, .int .i64 xl0, .int .i64 xl1] from by rw [hwi, heb]; exact Blk.alloc (heap_new' _ _ _ rfl) _)
      have HWI := Lib.hid (show Fut wo wi from by rw [hwi]; exact ((Fut.refl wo).alloc _).alloc _)
      have HLB := Lib.hid (show RowV wi lb tl (fun q => if q < 0 then V (xt.getD q 0).toNat else ⟨0, 0⟩) from by
        have := rowV_made (wo.alloc (.cells #[.int .i64 (h9 : Int), .slice xA tl xk, .int .i64 xc, .int .i64 xl0, .int .i64 xl1] 49)) tl
        rw [World.size_alloc, ← heb, ← hlb, ← hwi] at this
        exact this.congr' (fun q _ => (if_neg (Nat.not_lt_zero q)).symm))
      have hlw : wo.heap.size ≤ lb := by omega
      have hne : eb ≠ lb := by omega
      rw [← hwi]
      clear hwi heb hlb c0 c1 c2 c3 c4 hmk
      go_loopw [37] (fun i wr => ∃ k : Nat, k ≤ tl ∧ i = .int .i64 k ∧ Hid (RowV wr lb tl (fun q => if q < k then V (xt.getD q 0).toNat else ⟨0, 0⟩)) ∧ Hid (Blk wr eb 49 #[.int .i64 (h9 : Int), .slice xA tl xk, .int .i64 xc, .int .i64 xl0, .int .i64 xl1]) ∧ Hid (Fut wo wr)) (fun i _ => tl - (intOf i).toNat)
      case atStart => exact ⟨0, Nat.zero_le _, rfl, HLB, HEB, HWI⟩
      case round =>
        clear HLB HEB HWI
        obtain ⟨k, hk, rfl, HLB, HEB, HWI⟩ := hrel
        by_cases hklt : k < tl
        · obtain ⟨y, hy⟩ := get_lt HTN.out hklt
          have hyr := HX5.out y (List.mem_of_getElem? hy)
          obtain ⟨t, rfl⟩ : ∃ t : Nat, y = t := ⟨y.toNat, by omega⟩
          have htN : t < N := by omega
          obtain ⟨b3, o3, rfl, hc'⟩ := HT.out k _ hy
          have g0 := HWI.out.cell hc'
          have g2 := (HRV.out.fut (HFO.out.trans HWI.out)).c htN
          have g3 := (HRV.out.fut (HFO.out.trans HWI.out)).s htN
          have g4 := HLB.out.c hklt
          have g5 := HLB.out.s hklt
          have g6 := World.rowIs.frozen HLB.out (k * 2)
          have g7 := World.rowIs.frozen HLB.out (k * 2 + 1)
          have HYK := Lib.hid hy
          clear hy hc' hyr
          go_wp2_with fail
          refine ⟨⟨k + 1, by omega, by go_num, Lib.hid ?_, Lib.hid ?_, Lib.hid ?_⟩, by simp [intOf]; omega⟩
          · refine (HLB.out.set k (V t)).congr' (fun q hq => ?_)
            by_cases e1 : q = k
            · subst e1
              rw [PK.upd_same, if_pos (by omega), List.getD_eq_getElem?_getD, HYK.out]; rfl
            · rw [PK.upd_other _ _ _ _ e1]
              by_cases e2 : q < k
              · rw [if_pos e2, if_pos (by omega)]
              · rw [if_neg e2, if_neg (by omega)]
          · exact (HEB.out.setOther (a := ⟨lb, k * 2, none⟩) (by simp only; omega) _).setOther (a := ⟨lb, k * 2 + 1, none⟩) (by simp only; omega) _
          · exact (HWI.out.setCell (p := ⟨lb, k * 2, none⟩) (by simp only; omega) _).setCell (p := ⟨lb, k * 2 + 1, none⟩) (by simp only; omega) _
        · have hkt : k = tl := by omega
          have hls : (List.range tl).map (fun q => if q < k then V (xt.getD q 0).toNat else (⟨0, 0⟩ : VV)) = (xt.map Int.toNat).map V := by
            apply List.ext_getElem?
            intro q
            rw [List.getElem?_map, List.getElem?_map, List.getElem?_map]
            by_cases hq : q < tl
            · obtain ⟨x, hx⟩ := get_lt HTN.out hq
              rw [List.getElem?_range hq, hx]
              simp [show q < k by omega, List.getD_eq_getElem?_getD, hx]
            · rw [List.getElem?_eq_none (by simp; omega), List.getElem?_eq_none (by rw [HTN.out]; omega)]; rfl
          have hrd := HLB.out.rd
          rw [hls] at hrd
          have HRD := Lib.hid hrd
          have t3 := (HRV.out.fut (HFO.out.trans HWI.out)).c hh9
          have t4 := (HRV.out.fut (HFO.out.trans HWI.out)).s hh9
          have e0 := HEB.out.cell (i := 0) rfl
          obtain ⟨zc, hzc⟩ : ∃ z, z = (V h9).c := ⟨_, rfl⟩
          obtain ⟨zs, hzs⟩ : ∃ z, z = (V h9).s := ⟨_, rfl⟩
          rw [← hzc] at t3
          rw [← hzs] at t4
          have HZ := Lib.hid (show V h9 = ⟨zc, zs⟩ from by rw [hzc, hzs])
          have HKT := Lib.hid hkt
          clear hzc hzs hls hrd hkt HLB
          go_wp2_with fail
          obtain ⟨zb, hzb⟩ : ∃ zb, zb = wr.heap.size := ⟨_, rfl⟩
          rw [← hzb]
          obtain ⟨wz, hwz⟩ : ∃ wz, wz = wr.alloc (.cells #[.int .i64 zc, .int .i64 zs] 46) := ⟨_, rfl⟩
          have HBZ := Lib.hid (show Blk wz zb 46 #[.int .i64 zc, .int .i64 zs] from by rw [hwz, hzb]; exact heap_new' _ _ _ rfl)
          have HEZ := Lib.hid (show Blk wz eb 49 #[.int .i64 (h9 : Int), .slice xA tl xk, .int .i64 xc, .int .i64 xl0, .int .i64 xl1] from by rw [hwz]; exact HEB.out.alloc _)
          have HWZ := Lib.hid (show Fut wo wz from by rw [hwz]; exact HWI.out.alloc _)
          have HRZ := Lib.hid (show RdS wz (some ⟨lb, 0, none⟩) 2 encV ((xt.map Int.toNat).map V) from by rw [hwz]; exact HRD.out.fut ((Fut.refl wr).alloc _))
          rw [← hwz]
          clear hwz hzb t3 t4 e0 HEB HWI HRD
          have t0 := cell_fut (HBZ.out.cell (i := 0) rfl)
          have t1 := cell_fut (HBZ.out.cell (i := 1) rfl)
          have t2 := cell_fut (HEZ.out.cell (i := 2) rfl)
          obtain ⟨y, hy⟩ : ∃ y, y = ev V (toEE ⟨(h9 : Int), xt, xc, xl0, xl1, xA, xk⟩) := ⟨_, rfl⟩
          obtain ⟨yc, ys⟩ := y
          have HY := Lib.hid hy
          clear hy
          have HTG := Lib.hid (show tgt V ⟨(h9 : Int), xt, xc, xl0, xl1, xA, xk⟩ = (decide (zc < INF) && decide ((⟨yc, ys⟩ : VV) = ⟨zc, zs⟩)) from by
            simp only [tgt, Int.toNat_natCast, HZ.out, show ev V (toEE ⟨(h9 : Int), xt, xc, xl0, xl1, xA, xk⟩) = ⟨yc, ys⟩ from HY.out.symm])
          have HCM := Lib.hid (fun w' (hf : Fut wz w') => combine_any xc (some ⟨lb, 0, none⟩) tl tl ((xt.map Int.toNat).map V) w' (by rw [List.length_map, List.length_map, HTN.out]) (by unfold maxLen; omega) HXC.out (fun v hv => by
            obtain ⟨t, _, rfl⟩ := List.mem_map.1 hv
            exact HSO.out.ok t) (HRZ.out.fut hf))
          rw [show comb xc ((xt.map Int.toNat).map V) = ⟨yc, ys⟩ from HY.out.symm] at HCM
          by_cases hfin : zc < 1099511627776
          · have hd : Hid (yc = zc ∧ ys = zs) ∨ (Hid (¬ ys = zs) ∧ Hid (yc = zc)) ∨ Hid (¬ yc = zc) := by
              by_cases h1 : yc = zc
              · by_cases h2 : ys = zs
                · exact .inl (Lib.hid ⟨h1, h2⟩)
                · exact .inr (.inl ⟨Lib.hid h2, Lib.hid h1⟩)
              · exact .inr (.inr (Lib.hid h1))
            rcases hd with hd | ⟨hd, hd2⟩ | hd
            · have k1 : (yc = zc) = True := eq_true hd.out.1
              have k2 : (ys = zs) = True := eq_true hd.out.2
              refine wp_region_M o_forest_tight_14 (by kernel_rfl) (by kernel_rfl) (by intro c a d v w h; cases d <;> exact h) ?_; unfold o_forest_tight_14
              iterate 8 (refine wpF_h rfl rfl (fun K hK => ?_); go_simp; refine hK _ _ ?_; clear hK K)
              refine wpF_o rfl rfl (fun K hK => ?_)
              go_simp
              go_at_call 50
              refine (HCM.out _ (Fut.refl wz).drew).mono ?_
              rintro r wc ⟨rfl, hbc⟩
              have HFC := Lib.hid (show Fut wz wc from (Fut.refl wz).drew.trans hbc)
              refine hK _ _ (.inr hbc) ?_
              clear hK K hbc
              iterate 2 (refine wpF_h rfl rfl (fun K hK => ?_); go_simp; refine hK _ _ ?_; clear hK K)
              refine wpF_nil ?_
              have HTT := Lib.hid (show tgt V ⟨(h9 : Int), xt, xc, xl0, xl1, xA, xk⟩ = true from by rw [HTG.out]; simp [hd.out.1, hd.out.2]; unfold INF; rw [← hd.out.1] at hfin ⊢; exact hfin)
              have HWC := Lib.hid (HWZ.out.trans HFC.out)
              have HXB1 := Lib.hid (HXB.out.fut HWC.out)
              have b1 := HXB1.out.cell (i := 1) rfl
              have bf := HXB1.out.fz 1
              have e0 := (HEZ.out.fut HFC.out).cell (i := 0) rfl
              have e1 := (HEZ.out.fut HFC.out).cell (i := 1) rfl
              have e2 := (HEZ.out.fut HFC.out).cell (i := 2) rfl
              have e3 := (HEZ.out.fut HFC.out).cell (i := 3) rfl
              have e4 := (HEZ.out.fut HFC.out).cell (i := 4) rfl
              have HXO1 := Lib.hid (World.ownsRow.alloc (own_fut HXO.out HWC.out) (.cells #[.int .i64 (h9 : Int), .slice xA tl xk, .int .i64 xc, .int .i64 xl0, .int .i64 xl1] 49))
              have HFW1 := Lib.hid (World.ownsRow.alloc (own_fut HFW.out HWC.out) (.cells #[.int .i64 (h9 : Int), .slice xA tl xk, .int .i64 xc, .int .i64 xl0, .int .i64 xl1] 49))
              have HXBA := Lib.hid (HXB1.out.alloc (.cells #[.int .i64 (h9 : Int), .slice xA tl xk, .int .i64 xc, .int .i64 xl0, .int .i64 xl1] 49))
              have HFA := Lib.hid (HWC.out.alloc (.cells #[.int .i64 (h9 : Int), .slice xA tl xk, .int .i64 xc, .int .i64 xl0, .int .i64 xl1] 49))
              have HSZ := Lib.hid (show xb + 1 ≤ (wc.alloc (.cells #[.int .i64 (h9 : Int), .slice xA tl xk, .int .i64 xc, .int .i64 xl0, .int .i64 xl1] 49)).heap.size from Nat.le_trans HXS.out HFA.out.size)
              clear t0 t1 t2 k1 k2
              go_wp2_with (first
                | (at_builtin; refine wpList_push rfl 22 49 5 56 _ Try.underlying22 info_ee rfl (by decide) (by decide) (.tmp 67) (.tmp 69) rfl (xb + 1) (.slice XA m Xc) m _ rfl HXO1.out wc.heap.size [.int .i64 (h9 : Int), .slice xA tl xk, .int .i64 xc, .int .i64 xl0, .int .i64 xl1] rfl (heap_new' _ _ _ rfl) rfl (by simp [Value.oneCell']) (by have := HM.out; have := @tPk_len V es j; omega) HSZ.out ?_; intro g cap w' h1 h2 h3; have hxb := HXBA.out.grown h2 (fun e => by have := (World.ownsRow.lt HXO1.out xb e.symm).1; omega); have z1 := hxb.cell (i := 1) rfl; have z2 := hxb.fz 1; have hfw := World.ownsRow.kept HFW1.out h2 (own_apart HFW1.out HXO1.out (by decide)); have HXB2 := Lib.hid (Blk.alloc (hxb.set 1 (.slice (some ⟨g, 0, none⟩) (m + 1) cap)) (.cells #[.int .i64 (j : Int)] 3)); have HFW2 := Lib.hid (World.ownsRow.alloc (own_keep (w' := (w'.setCell ⟨xb, 1, none⟩ (.slice (some ⟨g, 0, none⟩) (m + 1) cap))) hfw (fun k hk => blk_setCell_other _ _ _ _ (by have := (World.ownsRow.lt hfw k hk).1; simp only; omega))) (.cells #[.int .i64 (j : Int)] 3)); have HXO2 := Lib.hid (World.ownsRow.alloc (own_keep (w' := (w'.setCell ⟨xb, 1, none⟩ (.slice (some ⟨g, 0, none⟩) (m + 1) cap))) h1 (fun k hk => blk_setCell_other _ _ _ _ (by have := (World.ownsRow.lt h1 k hk).1; simp only; omega))) (.cells #[.int .i64 (j : Int)] 3)); have hf2 := Below.grown (HFO.out.trans HFA.out) h2 (HFO.out.trans HFA.out).size (fun q hq => by have := (World.ownsRow.lt HXO1.out q hq).1; omega); have HF2 := Lib.hid ((Fut.setCell (p := ⟨xb, 1, none⟩) hf2 hxw (.slice (some ⟨g, 0, none⟩) (m + 1) cap)).alloc (.cells #[.int .i64 (j : Int)] 3)); clear hxb hfw hf2 h1 h2 h3)
                | (at_builtin; refine wpList_push rfl 27 3 1 8 _ Try.underlying27 info_int rfl (by decide) (by decide) (.tmp 72) (.tmp 74) rfl (xb + 1) (.slice FA m Fc) m _ rfl HFW2.out w'.heap.size [.int .i64 (j : Int)] rfl (heap_new' _ _ _ (by simp only [World.size_setCell])) rfl (by simp [Value.oneCell']) (by have := HM.out; have := @tPk_len V es j; omega) (by have := HXB2.out.lt; omega) ?_; intro g2 cap2 w9 h4 h5 h6))
              refine ⟨⟨j + 1, m + 1, some ⟨g, 0, none⟩, some ⟨g2, 0, none⟩, cap, cap2, by omega, rfl, by go_num, Lib.hid ?_, Lib.hid ?_, Lib.hid ?_, Lib.hid ?_, Lib.hid ?_⟩, by simp [intOf]; omega⟩
              · rw [tPk_succ HX.out, if_pos HTT.out, List.length_append, HM.out]; rfl
              · exact HXB2.out.grown h5 (fun e => by have := (World.ownsRow.lt HFW2.out xb e.symm).1; omega)
              · rw [tPk_succ HX.out, if_pos HTT.out, List.map_append, List.flatMap_append]
                have hk9 := World.ownsRow.kept HXO2.out h5 (own_apart HXO2.out HFW2.out (by decide))
                have hk8 : List.flatMap encE (List.map Prod.fst [((⟨(h9 : Int), xt, xc, xl0, xl1, xA, xk⟩ : EI), j)]) = [.int .i64 (h9 : Int), .slice xA tl xk, .int .i64 xc, .int .i64 xl0, .int .i64 xl1] := by simp [encE, HTN.out]
                rw [hk8]
                exact hk9
              · rw [tPk_succ HX.out, if_pos HTT.out, List.map_append]
                exact h4
              · exact Below.grown HF2.out h5 HF2.out.size (fun q hq => by have := (World.ownsRow.lt HFW2.out q hq).1; omega)
            · have k1 : (yc = zc) = True := eq_true hd2.out
              have k2 : (ys = zs) = False := eq_false hd.out
              have HTF := Lib.hid (show tgt V ⟨(h9 : Int), xt, xc, xl0, xl1, xA, xk⟩ = false from by rw [HTG.out]; simp [hd.out])
              refine wp_region_M o_forest_tight_14 (by kernel_rfl) (by kernel_rfl) (by intro c a d v w h; cases d <;> exact h) ?_; unfold o_forest_tight_14
              iterate 8 (refine wpF_h rfl rfl (fun K hK => ?_); go_simp; refine hK _ _ ?_; clear hK K)
              refine wpF_o rfl rfl (fun K hK => ?_)
              go_simp
              go_at_call 50
              refine (HCM.out _ (Fut.refl wz).drew).mono ?_
              rintro r wc ⟨rfl, hbc⟩
              have HFC := Lib.hid (show Fut wz wc from (Fut.refl wz).drew.trans hbc)
              refine hK _ _ (.inr hbc) ?_
              clear hK K hbc
              iterate 2 (refine wpF_h rfl rfl (fun K hK => ?_); go_simp; refine hK _ _ ?_; clear hK K)
              refine wpF_nil ?_
              go_wp2_with fail
              refine ⟨⟨j + 1, m, XA, FA, Xc, Fc, by omega, rfl, by go_num, Lib.hid ?_, Lib.hid (HXB.out.fut (HWZ.out.trans HFC.out)), Lib.hid ?_, Lib.hid ?_, Lib.hid (HFO.out.trans (HWZ.out.trans HFC.out))⟩, by simp [intOf]; omega⟩
              · rw [tPk_succ HX.out, if_neg (by rw [HTF.out]; exact Bool.false_ne_true)]; exact HM.out
              · rw [tPk_succ HX.out, if_neg (by rw [HTF.out]; exact Bool.false_ne_true)]; exact own_fut HXO.out (HWZ.out.trans HFC.out)
              · rw [tPk_succ HX.out, if_neg (by rw [HTF.out]; exact Bool.false_ne_true)]; exact own_fut HFW.out (HWZ.out.trans HFC.out)
            · have k1 : (yc = zc) = False := eq_false hd.out
              have HTF := Lib.hid (show tgt V ⟨(h9 : Int), xt, xc, xl0, xl1, xA, xk⟩ = false from by rw [HTG.out]; simp [hd.out])
              refine wp_region_M o_forest_tight_14 (by kernel_rfl) (by kernel_rfl) (by intro c a d v w h; cases d <;> exact h) ?_; unfold o_forest_tight_14
              iterate 8 (refine wpF_h rfl rfl (fun K hK => ?_); go_simp; refine hK _ _ ?_; clear hK K)
              refine wpF_o rfl rfl (fun K hK => ?_)
              go_simp
              go_at_call 50
              refine (HCM.out _ (Fut.refl wz).drew).mono ?_
              rintro r wc ⟨rfl, hbc⟩
              have HFC := Lib.hid (show Fut wz wc from (Fut.refl wz).drew.trans hbc)
              refine hK _ _ (.inr hbc) ?_
              clear hK K hbc
              iterate 2 (refine wpF_h rfl rfl (fun K hK => ?_); go_simp; refine hK _ _ ?_; clear hK K)
              refine wpF_nil ?_
              go_wp2_with fail
              refine ⟨⟨j + 1, m, XA, FA, Xc, Fc, by omega, rfl, by go_num, Lib.hid ?_, Lib.hid (HXB.out.fut (HWZ.out.trans HFC.out)), Lib.hid ?_, Lib.hid ?_, Lib.hid (HFO.out.trans (HWZ.out.trans HFC.out))⟩, by simp [intOf]; omega⟩
              · rw [tPk_succ HX.out, if_neg (by rw [HTF.out]; exact Bool.false_ne_true)]; exact HM.out
              · rw [tPk_succ HX.out, if_neg (by rw [HTF.out]; exact Bool.false_ne_true)]; exact own_fut HXO.out (HWZ.out.trans HFC.out)
              · rw [tPk_succ HX.out, if_neg (by rw [HTF.out]; exact Bool.false_ne_true)]; exact own_fut HFW.out (HWZ.out.trans HFC.out)
          · have HTF := Lib.hid (show tgt V ⟨(h9 : Int), xt, xc, xl0, xl1, xA, xk⟩ = false from by
              rw [HTG.out]
              have : ¬ zc < INF := hfin
              simp [this])
            refine wp_region_M o_forest_tight_14 (by kernel_rfl) (by kernel_rfl) (by intro c a d v w h; cases d <;> exact h) ?_; unfold o_forest_tight_14
            iterate 4 (refine wpF_h rfl rfl (fun K hK => ?_); go_simp; refine hK _ _ ?_; clear hK K)
            iterate 4 (refine wpF_hs2 rfl rfl (fun K hK => ?_); go_simp; refine hK _ _ ?_; clear hK K)
            (refine wpF_os2 rfl rfl (fun K hK => ?_); go_simp; refine hK _ _ ?_; clear hK K)
            (refine wpF_hs2 rfl rfl (fun K hK => ?_); go_simp; refine hK _ _ ?_; clear hK K)
            (refine wpF_h rfl rfl (fun K hK => ?_); go_simp; refine hK _ _ ?_; clear hK K)
            refine wpF_nil ?_
            go_wp2_with fail
            refine ⟨⟨j + 1, m, XA, FA, Xc, Fc, by omega, rfl, by go_num, Lib.hid ?_, Lib.hid (HXB.out.fut HWZ.out.drew), Lib.hid ?_, Lib.hid ?_, Lib.hid (HFO.out.trans HWZ.out.drew)⟩, by simp [intOf]; omega⟩
            · rw [tPk_succ HX.out, if_neg (by rw [HTF.out]; exact Bool.false_ne_true)]; exact HM.out
            · rw [tPk_succ HX.out, if_neg (by rw [HTF.out]; exact Bool.false_ne_true)]; exact own_fut HXO.out HWZ.out.drew
            · rw [tPk_succ HX.out, if_neg (by rw [HTF.out]; exact Bool.false_ne_true)]; exact own_fut HFW.out HWZ.out.drew
    · have hjn : j = n := by omega
      have HTA := Lib.hid (show tPk V es j = tP V es from tPk_all (by rw [HL.out, hjn]; exact Nat.le_refl _))
      have b0 := HXB.out.cell (i := 0) rfl
      have b1 := HXB.out.cell (i := 1) rfl
      have HZ3 := Lib.hid (HZ.out.fut (HF1.out.trans HFO.out))
      have g4 := HZ3.out.cell (i := 0) rfl
      have g5 := HZ3.out.cell (i := 1) rfl
      have g2 := HZ3.out.fz 0
      have g3 := HZ3.out.fz 1
      have HW1 := Lib.hid (show w.heap.size + 2 ≤ w1.heap.size from Nat.le_trans (show w.heap.size + 2 ≤ wb.heap.size from HZ.out.lt) HF1.out.size)
      clear hjn
      go_wp2_with fail
      refine bodyPost_ret (res_cell2 ftight_res _ _ (w.heap.size + 1) _ _ _ _ rfl ((HZ3.out.set 0 (.int .i64 (N : Int))).set 1 (.slice XA m Xc)) Try.underlying24 rfl (by kernel_rfl)) rfl ?_
      have hk : ∀ b, b ≠ w.heap.size + 1 → ((wo.setCell ⟨w.heap.size + 1, 0, none⟩ (.int .i64 (N : Int))).setCell ⟨w.heap.size + 1, 1, none⟩ (.slice XA m Xc)).heap[b]? = wo.heap[b]? := fun b h => (blk_setCell_other _ _ _ _ h).trans (blk_setCell_other _ _ _ _ h)
      have hfz : Fut w ((wo.setCell ⟨w.heap.size + 1, 0, none⟩ (.int .i64 (N : Int))).setCell ⟨w.heap.size + 1, 1, none⟩ (.slice XA m Xc)) := (((HF.out.trans HF1.out).trans HFO.out).setCell (p := ⟨w.heap.size + 1, 0, none⟩) (by simp only; omega) _).setCell (p := ⟨w.heap.size + 1, 1, none⟩) (by simp only; omega) _
      have hw1 := HW1.out
      have ho := own_keep (w' := (wo.setCell ⟨w.heap.size + 1, 0, none⟩ (.int .i64 (N : Int))).setCell ⟨w.heap.size + 1, 1, none⟩ (.slice XA m Xc)) HXO.out (fun k hk' => hk k (by have := (World.ownsRow.lt HXO.out k hk').1; omega))
      have hp := own_keep (w' := (wo.setCell ⟨w.heap.size + 1, 0, none⟩ (.int .i64 (N : Int))).setCell ⟨w.heap.size + 1, 1, none⟩ (.slice XA m Xc)) HFW.out (fun k hk' => hk k (by have := (World.ownsRow.lt HFW.out k hk').1; omega))
      have hm := HM.out
      rw [HTA.out] at ho hp hm
      refine ⟨⟨XA, Xc, FA, Fc, by rw [← hm]; rfl, ⟨RdS.of_own (enc := encE) encE_len (by decide) ho, fun e he => ?_⟩, ?_⟩, hfz⟩
      · obtain ⟨hr1, hr2⟩ := HR.out.2 e (mem_tE.1 he).1
        exact ⟨hr1.fut hfz, hr2⟩
      · have h8 : (tP V es).map (fun p => nv p.2) = (tI V es).map nv := by unfold tI; rw [List.map_map]; rfl
        rw [h8] at hp
        exact Rd1.of_own (f := nv) hp
end Go.Proofs.Ytoiffhoiklafhaa
/-
  The forest of a node, walked.
-/
namespace Go.Proofs.Ytoiffhoiklafhaa
open Go.RowKit Go.Deep PK
attribute [local go_sem] Oper.lit Oper.litS fut_fut fut_drew World.cell?_alloc_some
attribute [local go_sem] fut_base_drew World.frozen?_setCell
/-- of the first j tight hyperedges, those of the forest -/
noncomputable def gPk (N : Nat) (V : Nat → VV) (es : List EI) (r : Int) (j : Nat) : List (EI × Nat) := ((tP V es).take j).filter (fun p => rchB N V es r p.1.h.toNat)
theorem gPk_succ {N : Nat} {V : Nat → VV} {es : List EI} {r : Int} {j : Nat} {p : EI × Nat} (h : (tP V es)[j]? = some p) : gPk N V es r (j + 1) = if rchB N V es r p.1.h.toNat = true then gPk N V es r j ++ [p] else gPk N V es r j := by
  unfold gPk; rw [filt_succ h]
theorem gPk_all {N : Nat} {V : Nat → VV} {es : List EI} {r : Int} {j : Nat} (h : (tP V es).length ≤ j) : gPk N V es r j = fP N V es r := by
  unfold gPk fP; rw [List.take_of_length_le h]
theorem gPk_len {N : Nat} {V : Nat → VV} {es : List EI} {r : Int} {j : Nat} : (gPk N V es r j).length ≤ j := by
  unfold gPk
  exact Nat.le_trans (List.length_filter_le _ _) (by rw [List.length_take]; omega)
theorem reachL_at {N : Nat} {V : Nat → VV} {es : List EI} {r : Int} {v : Nat} (hv : v < N) : (reachL (tE V es) N r)[v]? = some (rchB N V es r v) := by
  unfold reachL
  split
  · rename_i h
    unfold rchL
    classical
    rw [List.getElem?_map, List.getElem?_range hv]
    simp only [Option.map_some, Option.some.injEq]
    rw [Bool.eq_iff_iff, rchB_iff]
    simp only [decide_eq_true_eq]
    exact ⟨fun k => ⟨h.1, h.2, k⟩, fun k => k.2.2⟩
  · rename_i h
    rw [List.getElem?_replicate, if_pos hv]
    cases h9 : rchB N V es r v with
    | false => rfl
    | true => exact absurd (rchB_iff.1 h9) (fun k => h ⟨k.1, k.2.1⟩)
theorem fTight_res : Try.f14.results = #[.cell 4 24, .tmp 5] := by kernel_rfl
set_option maxHeartbeats 12800000 in
set_option maxRecDepth 4000 in
theorem fTight_any (N : Nat) (A : Option Addr) (n c : Nat) (es : List EI) (r : Int) (w : World) (V : Nat → VV) (hS : Sol (EEs es) V) (hl : es.length = n) (hn : n ≤ 1000) (hvd : validB N es = true) (htl : ∀ e ∈ es, e.t.length ≤ 4) (hR : RdE w A es) :
    Calls Try.prog 14 #[hv N A n c, .int .i64 r] w fun x w' => (∃ XA Xc FA Fc, x = .returned (.tuple #[hv N XA (fP N V es r).length Xc, .slice FA (fP N V es r).length Fc]) ∧ RdE w' XA (fE N V es r) ∧ Rd1 w' FA nv (fI N V es r)) ∧ Below w.heap.size w w' := by
  obtain ⟨v1, v2, v3⟩ := validB_parts hvd
  have hN2 : N ≤ 1048576 := by omega
  have HVE := Lib.hid v3
  have HTL := Lib.hid htl
  have HFT := Lib.hid (fun w' (hf : Fut w w') => ftight_any N A n c es w' V hS hl hn hvd htl (hR.fut hf))
  have HR := Lib.hid hR
  obtain ⟨m, hm⟩ : ∃ m, (tP V es).length = m := ⟨_, rfl⟩
  have hml : (tE V es).length = m := by unfold tE; rw [List.length_map, hm]
  have hmn : m ≤ 1000 := by rw [← hml]; exact Nat.le_trans (tE_le V es) (by omega)
  have HRE := Lib.hid (fun (XA : Option Addr) Xc w' (hr : RdE w' XA (tE V es)) => reach_any N r XA m Xc (tE V es) w' hml hmn hN2 (fun e he => ⟨(okE_parts (v3 e (mem_tE.1 he).1)).1, (okE_parts (v3 e (mem_tE.1 he).1)).2.1⟩) (fun e he => (okE_parts (v3 e (mem_tE.1 he).1)).2.2.2.2) hr)
  have HML := Lib.hid hm
  rw [hm] at HFT
  clear v1 v2 v3 hl hn hS hR hvd htl hml hm
  obtain ⟨wb, hwb⟩ : ∃ wb, wb = (w.alloc (.cells #[.int .i64 N, .slice A n c] 24)).alloc (.cells #[.int .i64 0, .slice none 0 0] 24) := ⟨_, rfl⟩
  have HF := Lib.hid (show Fut w wb from by rw [hwb]; exact ((Fut.refl w).alloc _).alloc _)
  have HB := Lib.hid (show Blk wb w.heap.size 24 #[.int .i64 N, .slice A n c] from by rw [hwb]; (repeat (first | exact heap_new' _ _ _ (by first | rfl | (simp only [World.size_alloc])) | refine (blk_alloc_lt _ _ _ (by first | omega | (simp only [World.size_alloc]; omega))).trans ?_)))
  have HZ := Lib.hid (show Blk wb (w.heap.size + 1) 24 #[.int .i64 0, .slice none 0 0] from by rw [hwb]; (repeat (first | exact heap_new' _ _ _ (by first | rfl | (simp only [World.size_alloc])) | refine (blk_alloc_lt _ _ _ (by first | omega | (simp only [World.size_alloc]; omega))).trans ?_)))
  go_enter Try.func14, Try.ntmps14
  go_wp2_with fail
  rw [← hwb]
  clear hwb
  have q0 := HB.out.cell (i := 0) rfl
  have q1 := HB.out.cell (i := 1) rfl
  go_wp2_with fail
  refine (HFT.out _ HF.out).mono ?_
  rintro x w1 ⟨⟨XA, Xc, GA, Gc, rfl, hre, hrf⟩, hb⟩
  have HF1 := Lib.hid (show Fut wb w1 from hb)
  have HE1 := Lib.hid hre
  have HG1 := Lib.hid hrf
  clear hb hre hrf HFT
  have q0 := HF1.out.cell q0
  have q1 := HF1.out.cell q1
  go_wp2_with fail
  obtain ⟨ab, hab⟩ : ∃ ab, ab = w1.heap.size := ⟨_, rfl⟩
  rw [← hab]
  obtain ⟨wa, hwa⟩ : ∃ wa, wa = w1.alloc (.cells #[.int .i64 N, .slice XA m Xc] 24) := ⟨_, rfl⟩
  have HFA := Lib.hid (show Fut wb wa from by rw [hwa]; exact HF1.out.alloc _)
  have HBA := Lib.hid (show Blk wa ab 24 #[.int .i64 N, .slice XA m Xc] from by rw [hwa, hab]; exact heap_new' _ _ _ rfl)
  have HE2 := Lib.hid (show RdE wa XA (tE V es) from by rw [hwa]; exact HE1.out.fut ((Fut.refl w1).alloc _))
  have HG2 := Lib.hid (show Rd1 wa GA nv (tI V es) from by rw [hwa]; exact HG1.out.fut ((Fut.refl w1).alloc _))
  rw [← hwa]
  clear hwa hab q0 q1 HE1 HG1
  refine (HRE.out _ _ _ HE2.out).mono ?_
  rintro x w2 ⟨rb, rfl, hrb, hb⟩
  have f12 : Fut wa w2 := hb
  have HFW9 := Lib.hid (HFA.out.trans f12)
  have HBX := Lib.hid (HBA.out.fut f12)
  have HEX := Lib.hid (HE2.out.fut f12)
  have HGX := Lib.hid (HG2.out.fut f12)
  have HRB0 := Lib.hid hrb
  have q0 := (HB.out.fut HFW9.out).cell (i := 0) rfl
  have a1 := HBX.out.cell (i := 1) rfl
  clear hb hrb f12 HE2 HG2 HBA HRE
  go_wp2_with fail
  obtain ⟨xb, hxb⟩ : ∃ xb, xb = w2.heap.size := ⟨_, rfl⟩
  rw [← hxb]
  obtain ⟨w3, hw3⟩ : ∃ w3, w3 = w2.alloc (.cells #[.int .i64 N, .slice none 0 0] 24) := ⟨_, rfl⟩
  have HXB := Lib.hid (show Blk w3 xb 24 #[.int .i64 N, .slice none 0 0] from by rw [hw3, hxb]; exact heap_new' _ _ _ rfl)
  have HFO := Lib.hid (show Fut w2 w3 from by rw [hw3]; exact (Fut.refl w2).alloc _)
  have hxw : w2.heap.size ≤ xb := by omega
  try rw [← hw3]
  clear hw3 hxb q0 a1
  go_loopw [10, 27] (fun f i wr => ∃ (j q : Nat) (YA FA : Option Addr) (Yc Fc : Nat), j ≤ m ∧ f = .slice FA q Fc ∧ i = .int .i64 j ∧ Hid (q = (gPk N V es r j).length) ∧ Hid (Blk wr xb 24 #[.int .i64 N, .slice YA q Yc]) ∧ Hid (wr.ownsRow (xb + 1) 49 5 (.slice YA q Yc) q (((gPk N V es r j).map Prod.fst).flatMap encE)) ∧ Hid (wr.ownsRow (xb + 1) 3 1 (.slice FA q Fc) q ((gPk N V es r j).map (fun p => nv p.2))) ∧ Hid (Fut w2 wr)) (fun _ i _ => m - (intOf i).toNat)
  case atStart => exact ⟨0, 0, none, none, 0, 0, Nat.zero_le _, rfl, rfl, Lib.hid rfl, HXB, Lib.hid (World.ownsRow_nil _ _ _ _), Lib.hid (World.ownsRow_nil _ _ _ _), HFO⟩
  case round =>
    clear HXB HFO
    obtain ⟨j, q, YA, FA, Yc, Fc, hj, rfl, rfl, HM, HXB, HXO, HFW, HFO⟩ := hrel
    obtain ⟨wo, rfl⟩ : ∃ x, x = wr := ⟨_, rfl⟩
    have HXS := Lib.hid (show xb + 1 ≤ wo.heap.size from HXB.out.lt)
    by_cases hlt : j < m
    · obtain ⟨⟨x, kx⟩, hx⟩ := get_lt HML.out hlt
      have hxe : (tE V es)[j]? = some x := by unfold tE; rw [List.getElem?_map, hx]; rfl
      have hxi : (tI V es)[j]? = some kx := by unfold tI; rw [List.getElem?_map, hx]; rfl
      have hxm := tP_mem (List.mem_of_getElem? hx)
      obtain ⟨x1, x2, x3, x4, x5⟩ := okE_parts (HVE.out x hxm)
      obtain ⟨b2, o2, rfl, hc⟩ := HEX.out.1 j x hxe
      obtain ⟨b4, o4, rfl, hc4⟩ := HGX.out j kx hxi
      obtain ⟨ht, htm⟩ := HEX.out.2 x (List.mem_of_getElem? hxe)
      have htl := HTL.out x hxm
      obtain ⟨xh, xt, xc, xl0, xl1, xA, xk⟩ := x
      simp only at x1 x2 x3 x4 x5 htl ht htm
      obtain ⟨h9, rfl⟩ : ∃ h : Nat, xh = h := ⟨xh.toNat, by omega⟩
      have hh9 : h9 < N := by omega
      have c0 := HFO.out.cell (hc 0 _ (by decide) rfl)
      have c1 := HFO.out.cell (hc 1 _ (by decide) rfl)
      have c2 := HFO.out.cell (hc 2 _ (by decide) rfl)
      have c3 := HFO.out.cell (hc 3 _ (by decide) rfl)
      have c4 := HFO.out.cell (hc 4 _ (by decide) rfl)
      simp only [Nat.add_zero] at c0
      have HIC := Lib.hid hc4
      have i1 := HFO.out.cell hc4
      obtain ⟨tl, htl'⟩ : ∃ tl, xt.length = tl := ⟨_, rfl⟩
      rw [htl'] at c1 htl htm
      have HTN := Lib.hid htl'
      have HX := Lib.hid hx
      obtain ⟨b5, o5, hb5, hc5⟩ := HRB0.out h9 _ (reachL_at hh9)
      simp only [Option.some.injEq, Addr.mk.injEq] at hb5
      obtain ⟨rfl, rfl, _⟩ := hb5
      simp only [Nat.zero_add] at hc5
      have r1 := HFO.out.cell hc5
      clear hx hxm hc ht htl' hxe hxi hc5
      obtain ⟨tb, htb⟩ : ∃ tb, rchB N V es r h9 = tb := ⟨_, rfl⟩
      have HRB := Lib.hid htb
      rw [htb] at r1
      clear htb
      have HFE := Lib.hid (show Fut wo (wo.alloc (.cells #[.int .i64 (h9 : Int), .slice xA tl xk, .int .i64 xc, .int .i64 xl0, .int .i64 xl1] 49)) from (Fut.refl wo).alloc _)
      have r2 := HFE.out.cell r1
      clear r1 i1
      cases tb with
      | true =>
        have HTT := Lib.hid (show rchB N V es r ((⟨(h9 : Int), xt, xc, xl0, xl1, xA, xk⟩ : EI), kx).1.h.toNat = true from by simp only [Int.toNat_natCast]; exact HRB.out)
        have b2 := (HXB.out.fut HFE.out).cell (i := 1) rfl
        have HXO1 := Lib.hid (World.ownsRow.alloc (own_fut HXO.out HFE.out) (.cells #[.int .i64 (h9 : Int), .slice xA tl xk, .int .i64 xc, .int .i64 xl0, .int .i64 xl1] 49))
        have HFW1 := Lib.hid (World.ownsRow.alloc (own_fut HFW.out HFE.out) (.cells #[.int .i64 (h9 : Int), .slice xA tl xk, .int .i64 xc, .int .i64 xl0, .int .i64 xl1] 49))
        have HXBA := Lib.hid (Blk.alloc (HXB.out.fut HFE.out) (.cells #[.int .i64 (h9 : Int), .slice xA tl xk, .int .i64 xc, .int .i64 xl0, .int .i64 xl1] 49))
        have HFA := Lib.hid (HFE.out.alloc (.cells #[.int .i64 (h9 : Int), .slice xA tl xk, .int .i64 xc, .int .i64 xl0, .int .i64 xl1] 49))
        have HSZ := Lib.hid (show xb + 1 ≤ ((wo.alloc (.cells #[.int .i64 (h9 : Int), .slice xA tl xk, .int .i64 xc, .int .i64 xl0, .int .i64 xl1] 49)).alloc (.cells #[.int .i64 (h9 : Int), .slice xA tl xk, .int .i64 xc, .int .i64 xl0, .int .i64 xl1] 49)).heap.size from Nat.le_trans HXS.out HFA.out.size)
        go_wp2_with (first
          | (at_builtin; refine wpList_push rfl 22 49 5 56 _ Try.underlying22 info_ee rfl (by decide) (by decide) (.tmp 38) (.tmp 40) rfl (xb + 1) (.slice YA q Yc) q _ rfl HXO1.out (wo.heap.size + 1) [.int .i64 (h9 : Int), .slice xA tl xk, .int .i64 xc, .int .i64 xl0, .int .i64 xl1] rfl (heap_new' _ _ _ (World.size_alloc _ _).symm) rfl (by simp [Value.oneCell']) (by have := HM.out; have := @gPk_len N V es r j; omega) HSZ.out ?_; intro g cap w' h1 h2 h3; have hxb := HXBA.out.grown h2 (fun e => by have := (World.ownsRow.lt HXO1.out xb e.symm).1; omega); have z1 := hxb.cell (i := 1) rfl; have z2 := hxb.fz 1; have hfw := World.ownsRow.kept HFW1.out h2 (own_apart HFW1.out HXO1.out (by decide)); have hf2 : Fut w2 w' := Below.grown (HFO.out.trans HFA.out) h2 (HFO.out.trans HFA.out).size (fun q hq => by have := (World.ownsRow.lt HXO1.out q hq).1; omega); have z3 := hf2.cell HIC.out; have z4 := (Fut.setCell (p := ⟨xb, 1, none⟩) hf2 hxw (.slice (some ⟨g, 0, none⟩) (q + 1) cap)).cell HIC.out; have HXB2 := Lib.hid (Blk.alloc (hxb.set 1 (.slice (some ⟨g, 0, none⟩) (q + 1) cap)) (.cells #[.int .i64 (kx : Int)] 3)); have HFW2 := Lib.hid (World.ownsRow.alloc (own_keep (w' := (w'.setCell ⟨xb, 1, none⟩ (.slice (some ⟨g, 0, none⟩) (q + 1) cap))) hfw (fun k hk => blk_setCell_other _ _ _ _ (by have := (World.ownsRow.lt hfw k hk).1; simp only; omega))) (.cells #[.int .i64 (kx : Int)] 3)); have HXO2 := Lib.hid (World.ownsRow.alloc (own_keep (w' := (w'.setCell ⟨xb, 1, none⟩ (.slice (some ⟨g, 0, none⟩) (q + 1) cap))) h1 (fun k hk => blk_setCell_other _ _ _ _ (by have := (World.ownsRow.lt h1 k hk).1; simp only; omega))) (.cells #[.int .i64 (kx : Int)] 3)); have HF2 := Lib.hid ((Fut.setCell (p := ⟨xb, 1, none⟩) hf2 hxw (.slice (some ⟨g, 0, none⟩) (q + 1) cap)).alloc (.cells #[.int .i64 (kx : Int)] 3)); clear hxb hfw hf2 h1 h2 h3)
          | (at_builtin; refine wpList_push rfl 27 3 1 8 _ Try.underlying27 info_int rfl (by decide) (by decide) (.tmp 43) (.tmp 48) rfl (xb + 1) (.slice FA q Fc) q _ rfl HFW2.out w'.heap.size [.int .i64 (kx : Int)] rfl (heap_new' _ _ _ (by simp only [World.size_setCell])) rfl (by simp [Value.oneCell']) (by have := HM.out; have := @gPk_len N V es r j; omega) HXB2.out.lt ?_; intro g2 cap2 w9 h4 h5 h6))
        refine ⟨⟨j + 1, q + 1, some ⟨g, 0, none⟩, some ⟨g2, 0, none⟩, cap, cap2, by omega, rfl, by go_num, Lib.hid ?_, Lib.hid ?_, Lib.hid ?_, Lib.hid ?_, Lib.hid ?_⟩, by simp [intOf]; omega⟩
        · rw [gPk_succ HX.out, if_pos HTT.out, List.length_append, HM.out]; rfl
        · exact HXB2.out.grown h5 (fun e => by have := (World.ownsRow.lt HFW2.out xb e.symm).1; omega)
        · rw [gPk_succ HX.out, if_pos HTT.out, List.map_append, List.flatMap_append]
          have hk9 := World.ownsRow.kept HXO2.out h5 (own_apart HXO2.out HFW2.out (by decide))
          have hk8 : List.flatMap encE (List.map Prod.fst [((⟨(h9 : Int), xt, xc, xl0, xl1, xA, xk⟩ : EI), kx)]) = [.int .i64 (h9 : Int), .slice xA tl xk, .int .i64 xc, .int .i64 xl0, .int .i64 xl1] := by simp [encE, HTN.out]
          rw [hk8]
          exact hk9
        · rw [gPk_succ HX.out, if_pos HTT.out, List.map_append]
          exact h4
        · exact Below.grown HF2.out h5 HF2.out.size (fun q hq => by have := (World.ownsRow.lt HFW2.out q hq).1; omega)
      | false =>
        have HTF := Lib.hid (show ¬ rchB N V es r ((⟨(h9 : Int), xt, xc, xl0, xl1, xA, xk⟩ : EI), kx).1.h.toNat = true from by simp only [Int.toNat_natCast]; rw [HRB.out]; exact Bool.false_ne_true)
        go_wp2_with fail
        refine ⟨⟨j + 1, q, YA, FA, Yc, Fc, by omega, rfl, by go_num, Lib.hid ?_, Lib.hid (HXB.out.fut HFE.out), Lib.hid ?_, Lib.hid ?_, Lib.hid (HFO.out.trans HFE.out)⟩, by simp [intOf]; omega⟩
        · rw [gPk_succ HX.out, if_neg HTF.out]; exact HM.out
        · rw [gPk_succ HX.out, if_neg HTF.out]; exact own_fut HXO.out HFE.out
        · rw [gPk_succ HX.out, if_neg HTF.out]; exact own_fut HFW.out HFE.out
    · have hjn : j = m := by omega
      have HTA := Lib.hid (show (gPk N V es r j) = fP N V es r from gPk_all (by rw [HML.out, hjn]; exact Nat.le_refl _))
      have b0 := HXB.out.cell (i := 0) rfl
      have b1 := HXB.out.cell (i := 1) rfl
      have HZ3 := Lib.hid (HZ.out.fut (HFW9.out.trans HFO.out))
      have g4 := HZ3.out.cell (i := 0) rfl
      have g5 := HZ3.out.cell (i := 1) rfl
      have g2 := HZ3.out.fz 0
      have g3 := HZ3.out.fz 1
      have HW1 := Lib.hid (show w.heap.size + 2 ≤ w2.heap.size from Nat.le_trans (show w.heap.size + 2 ≤ wb.heap.size from HZ.out.lt) HFW9.out.size)
      clear hjn
      go_wp2_with fail
      refine bodyPost_ret (res_cell2 fTight_res _ _ (w.heap.size + 1) _ _ _ _ rfl ((HZ3.out.set 0 (.int .i64 (N : Int))).set 1 (.slice YA q Yc)) Try.underlying24 rfl (by kernel_rfl)) rfl ?_
      have hk : ∀ b, b ≠ w.heap.size + 1 → ((wo.setCell ⟨w.heap.size + 1, 0, none⟩ (.int .i64 (N : Int))).setCell ⟨w.heap.size + 1, 1, none⟩ (.slice YA q Yc)).heap[b]? = wo.heap[b]? := fun b h => (blk_setCell_other _ _ _ _ h).trans (blk_setCell_other _ _ _ _ h)
      have hfz : Fut w ((wo.setCell ⟨w.heap.size + 1, 0, none⟩ (.int .i64 (N : Int))).setCell ⟨w.heap.size + 1, 1, none⟩ (.slice YA q Yc)) := (((HF.out.trans HFW9.out).trans HFO.out).setCell (p := ⟨w.heap.size + 1, 0, none⟩) (by simp only; omega) _).setCell (p := ⟨w.heap.size + 1, 1, none⟩) (by simp only; omega) _
      have hw1 := HW1.out
      have ho := own_keep (w' := (wo.setCell ⟨w.heap.size + 1, 0, none⟩ (.int .i64 (N : Int))).setCell ⟨w.heap.size + 1, 1, none⟩ (.slice YA q Yc)) HXO.out (fun k hk' => hk k (by have := (World.ownsRow.lt HXO.out k hk').1; omega))
      have hp := own_keep (w' := (wo.setCell ⟨w.heap.size + 1, 0, none⟩ (.int .i64 (N : Int))).setCell ⟨w.heap.size + 1, 1, none⟩ (.slice YA q Yc)) HFW.out (fun k hk' => hk k (by have := (World.ownsRow.lt HFW.out k hk').1; omega))
      have hm := HM.out
      rw [HTA.out] at ho hp hm
      refine ⟨⟨YA, Yc, FA, Fc, by rw [← hm]; rfl, ⟨RdS.of_own (enc := encE) encE_len (by decide) ho, fun e he => ?_⟩, ?_⟩, hfz⟩
      · obtain ⟨hr1, hr2⟩ := HR.out.2 e (mem_fE.1 he).1
        exact ⟨hr1.fut hfz, hr2⟩
      · have h8 : (fP N V es r).map (fun p => nv p.2) = (fI N V es r).map nv := by unfold fI; rw [List.map_map]; rfl
        rw [h8] at hp
        exact Rd1.of_own (f := nv) hp
end Go.Proofs.Ytoiffhoiklafhaa
