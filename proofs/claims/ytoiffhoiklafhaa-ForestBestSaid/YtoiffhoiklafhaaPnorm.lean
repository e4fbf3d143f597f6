/-
  Normal grammars and their hypergraphs, as plain mathematics.
-/
import Derived.Test.YtoiffhoiklafhaaBB
namespace Go.Proofs.PK
/-- a rule of a normal grammar -/
structure NR where
  kd : Int
  h : Int
  a : Int
  b : Int
  p : Int
  o : Int
def inN (N x : Int) : Bool := decide (0 ≤ x) && decide (x < N)
def tailsN (r : NR) : List Int := if r.kd = 3 then [r.a] else if r.kd = 4 then [r.a, r.b] else []
def bodyN (T N : Int) (r : NR) : Bool :=
  if r.kd = 1 then decide (r.a = 0) && decide (r.b = 0)
  else if r.kd = 2 then inN T r.a && decide (r.b = 0)
  else if r.kd = 3 then inN N r.a && decide (r.b = 0)
  else if r.kd = 4 then inN N r.a && inN N r.b
  else false
def okN (T N : Int) (r : NR) : Bool := inN N r.h && decide (0 ≤ r.p) && decide (r.p ≤ 1000) && decide (-1 ≤ r.o) && bodyN T N r
def headN (T N st : Int) (n : Nat) : Bool := decide (0 ≤ T) && decide (T ≤ 120) && decide (1 ≤ N) && decide (N ≤ 1000) && decide (0 ≤ st) && decide (st < N) && decide (n ≤ 600)
def validN (T N st : Int) (rs : List NR) : Bool := headN T N st rs.length && rs.all (okN T N)
def okP (p : Int) : Bool := decide (1 ≤ p) && decide (p ≤ 60000)
def pricesB (T : Int) (ins : List Int) : Bool := decide ((ins.length : Int) = T) && ins.all okP
def costN (ins : List Int) (r : NR) : Int := if r.kd = 2 then r.p + (ins[r.a.toNat]?).getD 0 else r.p
def gE (ins : List Int) (r : NR) : EE := ⟨r.h.toNat, (tailsN r).map Int.toNat, costN ins r⟩
def grE (ins : List Int) (rs : List NR) : List EE := rs.map (gE ins)
theorem validN_parts {T N st : Int} {rs : List NR} (h : validN T N st rs = true) : 0 ≤ T ∧ T ≤ 120 ∧ 1 ≤ N ∧ N ≤ 1000 ∧ rs.length ≤ 600 ∧ ∀ r ∈ rs, okN T N r = true := by
  simp only [validN, headN, Bool.and_eq_true, decide_eq_true_eq, List.all_eq_true] at h
  obtain ⟨⟨⟨⟨⟨⟨⟨h1, h2⟩, h3⟩, h4⟩, h5⟩, h6⟩, h7⟩, h8⟩ := h
  exact ⟨h1, h2, h3, h4, h7, h8⟩
theorem okN_parts {T N : Int} {r : NR} (h : okN T N r = true) : 0 ≤ r.h ∧ r.h < N ∧ 0 ≤ r.p ∧ r.p ≤ 1000 ∧ (r.kd = 2 → 0 ≤ r.a ∧ r.a < T) ∧ ∀ t ∈ tailsN r, 0 ≤ t ∧ t < N := by
  simp only [okN, inN, Bool.and_eq_true, decide_eq_true_eq] at h
  obtain ⟨⟨⟨⟨⟨h1, h2⟩, h3⟩, h4⟩, _⟩, h6⟩ := h
  refine ⟨h1, h2, h3, h4, fun e => ?_, fun t ht => ?_⟩
  · simp only [bodyN, e] at h6
    simp [inN] at h6
    exact h6.1
  · unfold tailsN at ht
    split at ht
    · rename_i e
      simp only [bodyN, e] at h6
      simp [inN] at h6 ht
      subst ht
      exact h6.1
    · split at ht
      · rename_i _ e
        simp only [bodyN, e] at h6
        simp [inN] at h6 ht
        rcases ht with rfl | rfl
        · exact h6.1
        · exact h6.2
      · simp at ht
theorem prices_parts {T : Int} {ins : List Int} (h : pricesB T ins = true) : (ins.length : Int) = T ∧ ∀ p ∈ ins, 1 ≤ p ∧ p ≤ 60000 := by
  simp only [pricesB, okP, Bool.and_eq_true, decide_eq_true_eq, List.all_eq_true] at h
  exact h
theorem cost_bd {T N : Int} {r : NR} {ins : List Int} (h : okN T N r = true) (hp : pricesB T ins = true) : 0 ≤ costN ins r ∧ costN ins r ≤ 61000 := by
  obtain ⟨_, _, h3, h4, h5, _⟩ := okN_parts h
  obtain ⟨g1, g2⟩ := prices_parts hp
  unfold costN
  split
  · rename_i e
    obtain ⟨k1, k2⟩ := h5 e
    rw [List.getElem?_eq_getElem (by omega), Option.getD_some]
    have := g2 _ (List.getElem_mem (l := ins) (n := r.a.toNat) (by omega))
    omega
  · omega
theorem grE_ok {T N st : Int} {rs : List NR} {ins : List Int} (h : validN T N st rs = true) (hp : pricesB T ins = true) : ∀ e ∈ grE ins rs, okE e := by
  intro e he
  obtain ⟨r, hr, rfl⟩ := List.mem_map.1 he
  have := cost_bd ((validN_parts h).2.2.2.2.2 r hr) hp
  unfold okE gE INF
  simp only
  omega
theorem grE_head {T N st : Int} {rs : List NR} {ins : List Int} (h : validN T N st rs = true) : ∀ e ∈ grE ins rs, e.h < N.toNat := by
  intro e he
  obtain ⟨r, hr, rfl⟩ := List.mem_map.1 he
  have := okN_parts ((validN_parts h).2.2.2.2.2 r hr)
  unfold gE
  simp only
  omega
/-! ### values without saturation -/
def ecost (es : List EE) (e : Int) : Int := ((edge es e).map (·.c)).getD 0
theorem ecost_some {es : List EE} {e : Int} {E : EE} (h : edge es e = some E) : ecost es e = E.c := by unfold ecost; rw [h]; rfl
mutual
/-- the price and the number of rules of a tree, summed up -/
def sumC (es : List EE) : DT → Int
  | .node e k => ecost es e + sumCs es k
def sumCs (es : List EE) : List DT → Int
  | [] => 0
  | d :: k => sumC es d + sumCs es k
end
mutual
def sizD : DT → Int
  | .node _ k => 1 + sizDs k
def sizDs : List DT → Int
  | [] => 0
  | d :: k => sizD d + sizDs k
end
theorem sizDs_nonneg : ∀ (k : List DT), (∀ d ∈ k, 1 ≤ sizD d) → 0 ≤ sizDs k
  | [], _ => by rw [sizDs]; omega
  | d :: k, h => by
    rw [sizDs]
    have h1 := h d (by simp)
    have h2 := sizDs_nonneg k (fun x hx => h x (by simp [hx]))
    omega
theorem sizD_pos (d : DT) : 1 ≤ sizD d := by
  induction d using DT.ind with
  | h e k ih =>
    rw [sizD]
    have := sizDs_nonneg k ih
    omega
theorem sizDs_le : ∀ (k : List DT) (d : DT), d ∈ k → sizD d ≤ sizDs k
  | [], d, h => by simp at h
  | x :: k, d, h => by
    rw [sizDs]
    have h1 := sizD_pos x
    have h2 := sizDs_nonneg k (fun y _ => sizD_pos y)
    rcases List.mem_cons.1 h with rfl | h
    · omega
    · have := sizDs_le k d h
      omega
/-- sums of the values of a list -/
def sC : List VV → Int
  | [] => 0
  | v :: l => v.c + sC l
def sS : List VV → Int
  | [] => 0
  | v :: l => v.s + sS l
theorem sC_pos : ∀ (l : List VV), (∀ v ∈ l, okV v) → 0 ≤ sC l
  | [], _ => by rw [sC]; omega
  | v :: l, h => by
    rw [sC]
    have h1 := (h v (by simp)).1
    have h2 := sC_pos l (fun y hy => h y (by simp [hy]))
    omega
theorem sS_pos : ∀ (l : List VV), (∀ v ∈ l, okV v) → 0 ≤ sS l
  | [], _ => by rw [sS]; omega
  | v :: l, h => by
    rw [sS]
    have h1 := (h v (by simp)).2.2.1
    have h2 := sS_pos l (fun y hy => h y (by simp [hy]))
    omega
/-- a fold that does not saturate -/
theorem fold_sum : ∀ (l : List VV) (p : Int × Int), (∀ v ∈ l, okV v) → 0 ≤ p.1 → 1 ≤ p.2 → p.1 + sC l < INF → p.2 + sS l < INF → l.foldl combG p = (p.1 + sC l, p.2 + sS l)
  | [], p, _, _, _, _, _ => by rw [sC, sS]; simp
  | v :: l, p, hl, h1, h2, hC, hS => by
    obtain ⟨k1, k2, k3, k4, _⟩ := hl v (by simp)
    rw [sC] at hC
    rw [sS] at hS
    have e1 := sC_pos l (fun y hy => hl y (by simp [hy]))
    have e2 := sS_pos l (fun y hy => hl y (by simp [hy]))
    have e3 : combG p v = (p.1 + v.c, p.2 + v.s) := by
      unfold combG
      rw [Int.min_eq_left (by omega), Int.min_eq_left (by omega)]
    rw [List.foldl_cons, e3, fold_sum l (p.1 + v.c, p.2 + v.s) (fun y hy => hl y (by simp [hy])) (by simp only; omega) (by simp only; omega) (by simp only; omega) (by simp only; omega), sC, sS]
    simp only [Prod.mk.injEq]
    omega
/-- a fold that has not saturated -/
theorem fold_exact : ∀ (l : List VV) (p : Int × Int), (∀ v ∈ l, okV v) → 0 ≤ p.1 → p.1 ≤ INF → 1 ≤ p.2 → p.2 ≤ INF → (l.foldl combG p).1 < INF → (l.foldl combG p).2 < INF → l.foldl combG p = (p.1 + sC l, p.2 + sS l)
  | [], p, _, _, _, _, _, _, _ => by rw [sC, sS]; simp
  | v :: l, p, hl, h1, h2, h3, h4, hC, hS => by
    obtain ⟨k1, k2, k3, k4, _⟩ := hl v (by simp)
    rw [List.foldl_cons] at hC hS ⊢
    have hc1 : (combG p v).1 = min (p.1 + v.c) INF := rfl
    have hc2 : (combG p v).2 = min (p.2 + v.s) INF := rfl
    have hb := fold_bd l (combG p v) (fun y hy => hl y (by simp [hy])) (by rw [hc1]; unfold INF; omega) (by rw [hc1]; unfold INF; omega) (by rw [hc2]; unfold INF; omega) (by rw [hc2]; unfold INF; omega)
    have e3 : combG p v = (p.1 + v.c, p.2 + v.s) := by
      refine Prod.ext ?_ ?_
      · rw [hc1]; exact Int.min_eq_left (by omega)
      · rw [hc2]; exact Int.min_eq_left (by omega)
    rw [fold_exact l (combG p v) (fun y hy => hl y (by simp [hy])) (by omega) (by omega) (by omega) (by omega) hC hS, e3, sC, sS]
    simp only [Prod.mk.injEq]
    omega
theorem sumCs_map (es : List EE) : ∀ (k : List DT), (∀ d ∈ k, (val es d).c = sumC es d ∧ (val es d).s = sizD d) → sC (k.map (val es)) = sumCs es k ∧ sS (k.map (val es)) = sizDs k
  | [], _ => by rw [sumCs, sizDs]; exact ⟨rfl, rfl⟩
  | d :: k, h => by
    obtain ⟨h1, h2⟩ := h d (by simp)
    obtain ⟨h3, h4⟩ := sumCs_map es k (fun x hx => h x (by simp [hx]))
    rw [List.map_cons, sC, sS, sumCs, sizDs, h1, h2, h3, h4]
    exact ⟨rfl, rfl⟩
theorem sumC_pos {es : List EE} (hes : ∀ e ∈ es, okE e) (d : DT) : 0 ≤ sumC es d := by
  induction d using DT.ind with
  | h e k ih =>
    rw [sumC]
    have h1 : 0 ≤ ecost es e := by
      cases h : edge es e with
      | none => unfold ecost; rw [h]; exact Int.le_refl _
      | some E => rw [ecost_some h]; exact (hes E (edge_mem h)).1
    have h2 : ∀ (k : List DT), (∀ d ∈ k, 0 ≤ sumC es d) → 0 ≤ sumCs es k := by
      intro k
      induction k with
      | nil => intro _; rw [sumCs]; omega
      | cons x k ih => intro hk; rw [sumCs]; have := hk x (by simp); have := ih (fun y hy => hk y (by simp [hy])); omega
    have := h2 k ih
    omega
theorem sumCs_le {es : List EE} (hes : ∀ e ∈ es, okE e) : ∀ (k : List DT) (d : DT), d ∈ k → sumC es d ≤ sumCs es k
  | [], d, h => by simp at h
  | x :: k, d, h => by
    rw [sumCs]
    have h1 := sumC_pos hes x
    have h2 : 0 ≤ sumCs es k := by
      clear h
      induction k with
      | nil => rw [sumCs]; omega
      | cons y k ih => rw [sumCs]; have := sumC_pos hes y; omega
    rcases List.mem_cons.1 h with rfl | h
    · omega
    · have := sumCs_le hes k d h
      omega
/-- a tree whose sums are below infinity has them as its value -/
theorem val_sum {es : List EE} (hes : ∀ e ∈ es, okE e) {d : DT} : ∀ {r : Int}, validD es d r = true → sumC es d < INF → sizD d < INF → val es d = ⟨sumC es d, sizD d⟩ := by
  induction d using DT.ind with
  | h e k ih =>
    intro r hv hc hs
    obtain ⟨E, hE, _, hlen, hk⟩ := (validD_iff _ _ _ _).1 hv
    have hcn : sumC es (.node e k) = E.c + sumCs es k := by rw [sumC, ecost_some hE]
    have hsn : sizD (.node e k) = 1 + sizDs k := by rw [sizD]
    rw [hcn] at hc ⊢
    rw [hsn] at hs ⊢
    have hok := hes E (edge_mem hE)
    have hkids : ∀ d ∈ k, (val es d).c = sumC es d ∧ (val es d).s = sizD d := by
      intro d hd
      obtain ⟨i, hi, hgi⟩ := List.mem_iff_getElem.1 hd
      have h1 := hk i d (E.t[i]'(by omega)) (by rw [List.getElem?_eq_getElem hi, hgi]) (List.getElem?_eq_getElem (by omega))
      have h2 := sumCs_le hes k d hd
      have h3 := sizDs_le k d hd
      have h4 := hok.1
      rw [ih d hd h1 (by omega) (by omega)]
      exact ⟨rfl, rfl⟩
    obtain ⟨g1, g2⟩ := sumCs_map es k hkids
    have hokl : ∀ v ∈ k.map (val es), okV v := fun v hv => by
      obtain ⟨d, _, rfl⟩ := List.mem_map.1 hv
      exact val_okP hes d
    rw [val, hE, valL_map]
    have hf := fold_sum (k.map (val es)) (E.c, 1) hokl hok.1 (by simp) (by simp only; rw [g1]; exact hc) (by simp only; rw [g2]; exact hs)
    rw [g1, g2] at hf
    simp only [comb, hf]
    rw [if_neg (by omega)]
/-- a value below infinity is the sums -/
theorem sum_val {es : List EE} (hes : ∀ e ∈ es, okE e) {d : DT} (hc : (val es d).c < INF) (hs : (val es d).s < INF) : val es d = ⟨sumC es d, sizD d⟩ := by
  induction d using DT.ind with
  | h e k ih =>
    rw [val] at hc hs ⊢
    cases hE : edge es e with
    | none => rw [hE] at hc; simp only [top] at hc; omega
    | some E =>
      rw [hE, valL_map] at hc hs
      rw [valL_map]
      simp only at hc hs ⊢
      have hok := hes E (edge_mem hE)
      have hokl : ∀ v ∈ k.map (val es), okV v := fun v hv => by
        obtain ⟨d, _, rfl⟩ := List.mem_map.1 hv
        exact val_okP hes d
      have hkids : ∀ d ∈ k, (val es d).c = sumC es d ∧ (val es d).s = sizD d := by
        intro d hd
        have h2 := comb_size hok hokl hc hs (List.mem_map.2 ⟨d, hd, rfl⟩)
        rw [ih d hd h2.1 (by omega)]
        exact ⟨rfl, rfl⟩
      obtain ⟨g1, g2⟩ := sumCs_map es k hkids
      have hlt : ¬ INF ≤ ((k.map (val es)).foldl combG (E.c, 1)).1 := fun h => by
        unfold comb at hc
        rw [if_pos h] at hc
        simp only [top] at hc; omega
      unfold comb at hs ⊢
      rw [if_neg hlt] at hs ⊢
      have hf := fold_exact (k.map (val es)) (E.c, 1) hokl hok.1 hok.2 (by simp) (by simp only; unfold INF; omega) (by omega) hs
      rw [g1, g2] at hf
      rw [hf, sumC, ecost_some hE, sizD]
theorem fold_mono_c : ∀ (l : List VV) (p q : Int × Int), (∀ v ∈ l, okV v) → p.1 ≤ q.1 → p.2 = q.2 → (l.foldl combG p).1 ≤ (l.foldl combG q).1 ∧ (l.foldl combG p).2 = (l.foldl combG q).2
  | [], p, q, _, h1, h2 => ⟨h1, h2⟩
  | v :: l, p, q, hl, h1, h2 => by
    rw [List.foldl_cons, List.foldl_cons]
    exact fold_mono_c l (combG p v) (combG q v) (fun y hy => hl y (by simp [hy])) (by unfold combG; simp only; omega) (by unfold combG; simp only; rw [h2])
theorem comb_mono_c {c d : Int} {l : List VV} (hc : 0 ≤ c ∧ c ≤ INF) (_hd : 0 ≤ d ∧ d ≤ INF) (h : c ≤ d) (hl : ∀ v ∈ l, okV v) : leV (comb c l) (comb d l) := by
  obtain ⟨h1, h2⟩ := fold_mono_c l (c, 1) (d, 1) hl h rfl
  have hok := comb_ok hc hl
  unfold comb
  split
  · rw [if_pos (by omega)]; exact leV_refl _
  · rename_i h3
    have h4 := comb_ok hc hl
    unfold comb at h4
    rw [if_neg h3] at h4
    split
    · exact leV_top h4
    · unfold leV
      simp only
      omega
/-- dearer hyperedges, no lesser values -/
theorem sol_mono {es fs : List EE} {V W : Nat → VV} (he : ∀ e ∈ es, okE e) (hf : ∀ e ∈ fs, okE e) (hV : Sol es V) (hW : Sol fs W) (h : ∀ f ∈ fs, ∃ e ∈ es, e.h = f.h ∧ e.t = f.t ∧ e.c ≤ f.c) (v : Nat) : leV (V v) (W v) := by
  refine hW.above V hV.ok (fun f hfm => ?_) v
  obtain ⟨e, hem, e1, e2, e3⟩ := h f hfm
  refine leV_trans (e1 ▸ hV.closed e hem) ?_
  unfold ev
  rw [e2]
  exact comb_mono_c (he e hem) (hf f hfm) e3 (fun v hv => by
    obtain ⟨t, _, rfl⟩ := List.mem_map.1 hv
    exact hV.ok t)
end Go.Proofs.PK
