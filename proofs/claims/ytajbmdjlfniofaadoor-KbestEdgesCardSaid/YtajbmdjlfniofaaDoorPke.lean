/-
  Fewer hyperedges, in plain mathematics: least values are reached, their sizes are bounded; the trees that do not use the last hyperedge.
-/
import Derived.Test.YtajbmdjlfniofaaDoorBB
namespace Go.Proofs.PK
section
variable {es : List EE}
def nextV (m : VV) : VV := if m.s < INF then ⟨m.c, m.s + 1⟩ else ⟨m.c + 1, 0⟩
theorem nextV_ok {m : VV} (h : okV m) (hm : m.c < INF) : okV (nextV m) := by
  obtain ⟨h1, h2, h3, h4, h5⟩ := h
  unfold nextV okV
  split
  · exact ⟨h1, h2, by simp only; omega, by simp only; omega, fun h => by simp only at h; omega⟩
  · exact ⟨by simp only; omega, by simp only; omega, by simp, by simp [INF], fun _ => rfl⟩
theorem nextV_lt (m : VV) : ltV m (nextV m) = true := by
  unfold nextV ltV
  simp only [Bool.or_eq_true, Bool.and_eq_true, decide_eq_true_eq]
  split
  · right; exact ⟨rfl, by simp only; omega⟩
  · left; simp only; omega
theorem nextV_le {m x : VV} (hx : okV x) (h : ltV m x = true) : leV (nextV m) x := by
  obtain ⟨h1, h2, h3, h4, h5⟩ := hx
  unfold ltV at h
  simp only [Bool.or_eq_true, Bool.and_eq_true, decide_eq_true_eq] at h
  unfold nextV leV
  split
  · simp only; omega
  · simp only; omega
/-- least values are reached -/
theorem reached_of_sol (hes : ∀ e ∈ es, okE e) {V : Nat → VV} (hV : Sol es V) : ∀ (n v : Nat), rank (V v) = n → V v = top ∨ Reached es V v := by
  intro n
  induction n using Nat.strongRecOn with
  | ind n ih =>
    intro v hn
    apply Classical.byContradiction
    intro hno
    have htop : V v ≠ top := fun h => hno (.inl h)
    have hnr : ¬ Reached es V v := fun h => hno (.inr h)
    obtain ⟨m, hm⟩ : ∃ m, m = V v := ⟨_, rfl⟩
    have hmok : okV m := hm ▸ hV.ok v
    have hmc : m.c < INF := by
      rcases Int.lt_or_le m.c INF with h | h
      · exact h
      · exfalso
        have h1 : m.c = INF := by have := hmok.2.1; omega
        have h2 := hmok.2.2.2.2 h1
        apply htop
        rw [← hm]
        cases m
        simp only at h1 h2
        rw [h1, h2]; rfl
    have hdec : ∀ u, Decidable (V u = m ∧ ¬ Reached es V u) := fun u => Classical.propDecidable _
    obtain ⟨W, hW⟩ : ∃ W : Nat → VV, ∀ u, (V u = m ∧ ¬ Reached es V u → W u = nextV m) ∧ (¬ (V u = m ∧ ¬ Reached es V u) → W u = V u) :=
      ⟨fun u => @ite _ (V u = m ∧ ¬ Reached es V u) (hdec u) (nextV m) (V u), fun u => ⟨fun h => if_pos h, fun h => if_neg h⟩⟩
    have hle : ∀ u, leV (V u) (W u) := fun u => by
      by_cases h : V u = m ∧ ¬ Reached es V u
      · rw [(hW u).1 h, h.1]; exact leV_of_lt (nextV_lt m)
      · rw [(hW u).2 h]; exact leV_refl _
    have hWok : ∀ u, okV (W u) := fun u => by
      by_cases h : V u = m ∧ ¬ Reached es V u
      · rw [(hW u).1 h]; exact nextV_ok hmok hmc
      · rw [(hW u).2 h]; exact hV.ok u
    have hcl : Closed es W := by
      intro e he
      have hmono := ev_mono (hes e he) hV.ok hWok (fun t _ => hle t)
      by_cases h : V e.h = m ∧ ¬ Reached es V e.h
      · rw [(hW _).1 h]
        have h1 := hV.closed e he
        rw [h.1] at h1
        have hevok : okV (ev V e) := comb_ok (hes e he) (fun x hx => by obtain ⟨t, _, rfl⟩ := List.mem_map.1 hx; exact hV.ok t)
        by_cases h2 : ltV m (ev V e) = true
        · exact leV_trans (nextV_le hevok h2) hmono
        · have h3 : ev V e = m := leV_antisymm (leV_of_not_lt (by simpa using h2)) h1
          by_cases h4 : ∀ t ∈ e.t, Reached es V t
          · exact absurd (Reached.by e he h4 (by rw [h3]; exact h.1)) h.2
          · have h5 : ∃ t ∈ e.t, ¬ Reached es V t := Classical.byContradiction fun h5 => h4 (fun t ht => Classical.byContradiction fun h6 => h5 ⟨t, ht, h6⟩)
            obtain ⟨t, ht, htr⟩ := h5
            have h6 : leV (V t) m := by
              rw [← h3]
              exact comb_sup (hes e he) (fun x hx => by obtain ⟨t, _, rfl⟩ := List.mem_map.1 hx; exact hV.ok t) (List.mem_map.2 ⟨t, ht, rfl⟩)
            have h7 : V t = m := by
              by_cases h8 : ltV (V t) m = true
              · exfalso
                have h9 := rank_lt (hV.ok t) hmok h8
                rw [hm, hn] at h9
                rcases ih _ h9 t rfl with h10 | h10
                · rw [h10] at h6
                  have : top.c ≤ m.c := by unfold leV at h6; omega
                  have : top.c = INF := rfl
                  omega
                · exact htr h10
              · exact leV_antisymm h6 (leV_of_not_lt (by simpa using h8))
            have h8 : W t = nextV m := (hW t).1 ⟨h7, htr⟩
            rw [← h8]
            exact comb_sup (hes e he) (fun x hx => by obtain ⟨t, _, rfl⟩ := List.mem_map.1 hx; exact hWok t) (List.mem_map.2 ⟨t, ht, rfl⟩)
      · rw [(hW _).2 h]
        exact leV_trans (hV.closed e he) hmono
    have h9 := hV.above W hWok hcl v
    rw [(hW v).1 ⟨hm.symm, hnr⟩, ← hm] at h9
    have := not_lt_of_leV h9
    rw [nextV_lt] at this
    cases this
/-! ### sizes -/
theorem sum_nn : ∀ {l : List VV}, (∀ v ∈ l, 0 ≤ v.s) → 0 ≤ (l.map (·.s)).sum
  | [], _ => by simp
  | b :: l, h => by
    rw [List.map_cons, List.sum_cons]
    have := h b (by simp)
    have := sum_nn (l := l) (fun v hv => h v (List.mem_cons_of_mem _ hv))
    omega
theorem fold_sum : ∀ (l : List VV) (p : Int × Int), (∀ v ∈ l, 0 ≤ v.s) → p.2 + (l.map (·.s)).sum < INF → (l.foldl combG p).2 = p.2 + (l.map (·.s)).sum
  | [], p, _, _ => by simp
  | a :: l, p, h, hs => by
    rw [List.map_cons, List.sum_cons] at hs
    have h0 := sum_nn (l := l) (fun v hv => h v (List.mem_cons_of_mem _ hv))
    have ha := h a (by simp)
    have h1 : (combG p a).2 = p.2 + a.s := by unfold combG; simp only; omega
    rw [List.foldl_cons, fold_sum l (combG p a) (fun v hv => h v (List.mem_cons_of_mem _ hv)) (by rw [h1]; omega), h1, List.map_cons, List.sum_cons]
    omega
def bS : Nat → Int
  | 0 => 1
  | k + 1 => 1 + 3 * bS k
theorem bS_pos : ∀ k, 1 ≤ bS k
  | 0 => by simp [bS]
  | k + 1 => by have := bS_pos k; simp only [bS]; omega
theorem bS_mono {i : Nat} : ∀ {j : Nat}, i ≤ j → bS i ≤ bS j
  | 0, h => by
    obtain rfl : i = 0 := by omega
    exact Int.le_refl _
  | j + 1, h => by
    rcases Nat.lt_or_ge i (j + 1) with h1 | h1
    · have := bS_mono (show i ≤ j by omega)
      have := bS_pos j
      simp only [bS]; omega
    · obtain rfl : i = j + 1 := by omega
      exact Int.le_refl _
def belowV (N : Nat) (V : Nat → VV) (v : Nat) : Nat := (List.range N).countP (fun u => ltV (V u) (V v))
theorem ltV_iff {a b : VV} : ltV a b = true ↔ (a.c < b.c ∨ (a.c = b.c ∧ a.s < b.s)) := by
  unfold ltV; simp
theorem countP_lt' {α : Type} {p q : α → Bool} : ∀ {l : List α}, (∀ x ∈ l, p x = true → q x = true) → (∃ x ∈ l, q x = true ∧ p x = false) → l.countP p < l.countP q := by
  intro l
  induction l with
  | nil => intro _ ⟨x, hx, _⟩; simp at hx
  | cons a l ih =>
    intro h ⟨x, hx, h1, h2⟩
    rw [List.countP_cons, List.countP_cons]
    have hle : l.countP p ≤ l.countP q := List.countP_mono_left (fun x hx => h x (List.mem_cons_of_mem _ hx))
    rcases List.mem_cons.1 hx with rfl | hx
    · rw [h1, h2]; simp; omega
    · have := ih (fun x hx => h x (List.mem_cons_of_mem _ hx)) ⟨x, hx, h1, h2⟩
      have h3 := h a (by simp)
      cases hp : p a with
      | false => simp; omega
      | true => rw [h3 hp]; simp; omega
theorem below_lt {N : Nat} {V : Nat → VV} {t v : Nat} (ht : t < N) (h : ltV (V t) (V v) = true) : belowV N V t < belowV N V v := by
  refine countP_lt' (fun u _ hu => ?_) ⟨t, List.mem_range.2 ht, h, ?_⟩
  · rw [ltV_iff] at hu h ⊢; omega
  · cases e : ltV (V t) (V t) with
    | false => rfl
    | true => rw [ltV_iff] at e; omega
theorem sum_le3 {l : List VV} {B : Int} (hl : l.length ≤ 3) (h : ∀ v ∈ l, v.s ≤ B) (hB : 0 ≤ B) : (l.map (·.s)).sum ≤ 3 * B := by
  match l, hl with
  | [], _ => simp; omega
  | [a], _ => have := h a (by simp); simp; omega
  | [a, b], _ => have := h a (by simp); have := h b (by simp); simp; omega
  | [a, b, c], _ => have := h a (by simp); have := h b (by simp); have := h c (by simp); simp; omega
theorem le_sum : ∀ {l : List VV}, (∀ v ∈ l, 0 ≤ v.s) → ∀ {x : VV}, x ∈ l → x.s ≤ (l.map (·.s)).sum
  | [], _, x, hx => by simp at hx
  | a :: l, h, x, hx => by
    rw [List.map_cons, List.sum_cons]
    have h0 := h a (by simp)
    have h1 := sum_nn (l := l) (fun v hv => h v (List.mem_cons_of_mem _ hv))
    rcases List.mem_cons.1 hx with rfl | hx
    · omega
    · have := le_sum (l := l) (fun v hv => h v (List.mem_cons_of_mem _ hv)) hx
      omega
theorem size_bound (hes : ∀ e ∈ es, okE e) {V : Nat → VV} (hok : ∀ v, okV (V v)) {N : Nat} (hN : N ≤ 8) (htl : ∀ e ∈ es, e.t.length ≤ 3 ∧ ∀ t ∈ e.t, t < N) {v : Nat} (h : Reached es V v) : (V v).s ≤ bS (belowV N V v) := by
  induction h with
  | «by» e he ht hv ih =>
    have h8 : bS 8 = 9841 := by decide
    have hb : ∀ t, belowV N V t ≤ 8 := fun t => Nat.le_trans (List.countP_le_length) (by rw [List.length_range]; exact hN)
    have hall : ∀ x ∈ e.t.map V, 0 ≤ x.s ∧ x.s ≤ 9841 := by
      intro x hx
      obtain ⟨t, htm, rfl⟩ := List.mem_map.1 hx
      have h1 := ih t htm
      have h2 := bS_mono (hb t)
      exact ⟨(hok t).2.2.1, by omega⟩
    have hlen : (e.t.map V).length ≤ 3 := by rw [List.length_map]; exact (htl e he).1
    have hsum := sum_le3 hlen (fun x hx => (hall x hx).2) (by omega)
    have hfs := fold_sum (e.t.map V) (e.c, 1) (fun x hx => (hall x hx).1) (by simp only; unfold INF; omega)
    have hsup := fold_sup (e.t.map V) (e.c, 1) (fun x hx => by obtain ⟨t, _, rfl⟩ := List.mem_map.1 hx; exact hok t) (hes e he).1 (hes e he).2 (by simp) (show (1 : Int) ≤ INF by unfold INF; decide)
    by_cases hinf : INF ≤ ((e.t.map V).foldl combG (e.c, 1)).1
    · have h1 : ev V e = top := by unfold ev comb; rw [if_pos hinf]
      rw [hv, h1]
      have := bS_pos (belowV N V e.h)
      show (0 : Int) ≤ _
      omega
    · have h1 : ev V e = ⟨((e.t.map V).foldl combG (e.c, 1)).1, ((e.t.map V).foldl combG (e.c, 1)).2⟩ := by unfold ev comb; rw [if_neg hinf]
      have hs : (V e.h).s = 1 + ((e.t.map V).map (·.s)).sum := by rw [hv, h1]; exact hfs
      have hc : (V e.h).c = ((e.t.map V).foldl combG (e.c, 1)).1 := by rw [hv, h1]
      have hlt : ∀ t ∈ e.t, belowV N V t + 1 ≤ belowV N V e.h := by
        intro t htm
        have hm : V t ∈ e.t.map V := List.mem_map.2 ⟨t, htm, rfl⟩
        have h2 := le_sum (fun x hx => (hall x hx).1) hm
        have h3 := (hsup _ hm).1
        exact below_lt ((htl e he).2 t htm) (by rw [ltV_iff, hs, hc]; omega)
      rw [hs]
      by_cases hnil : e.t = []
      · rw [hnil]
        have := bS_pos (belowV N V e.h)
        simpa using this
      · obtain ⟨k, hk⟩ : ∃ k, belowV N V e.h = k + 1 := by
          obtain ⟨t, ht⟩ := List.exists_mem_of_ne_nil _ hnil
          exact ⟨belowV N V e.h - 1, by have := hlt t ht; omega⟩
        have := sum_le3 (B := bS k) hlen (fun x hx => by
          obtain ⟨t, htm, rfl⟩ := List.mem_map.1 hx
          have h1 := ih t htm
          have h2 := bS_mono (show belowV N V t ≤ k by have := hlt t htm; omega)
          omega) (by have := bS_pos k; omega)
        rw [hk]
        simp only [bS]
        omega
theorem sol_small (hes : ∀ e ∈ es, okE e) {V : Nat → VV} (hV : Sol es V) {N : Nat} (hN : N ≤ 8) (htl : ∀ e ∈ es, e.t.length ≤ 3 ∧ ∀ t ∈ e.t, t < N) (v : Nat) : (V v).s < INF := by
  rcases reached_of_sol hes hV _ v rfl with h | h
  · rw [h]; decide
  · have h1 := size_bound hes hV.ok hN htl h
    have h2 := bS_mono (show belowV N V v ≤ 8 from Nat.le_trans (List.countP_le_length) (by rw [List.length_range]; exact hN))
    have h8 : bS 8 = 9841 := by decide
    unfold INF
    omega
/-! ### trees over the first m hyperedges -/
mutual
def usesD : DT → Int → Bool
  | .node e k, x => decide (e = x) || usesL k x
def usesL : List DT → Int → Bool
  | [], _ => false
  | d :: k, x => usesD d x || usesL k x
end
mutual
def inD (m : Int) : DT → Bool
  | .node e k => decide (e < m) && inL m k
def inL (m : Int) : List DT → Bool
  | [] => true
  | d :: k => inD m d && inL m k
end
theorem inL_iff (m : Int) : ∀ k, inL m k = true ↔ ∀ d ∈ k, inD m d = true
  | [] => by rw [inL]; simp
  | d :: k => by rw [inL, Bool.and_eq_true, inL_iff m k]; simp
theorem usesL_iff (x : Int) : ∀ k, usesL k x = false ↔ ∀ d ∈ k, usesD d x = false
  | [] => by rw [usesL]; simp
  | d :: k => by rw [usesL, Bool.or_eq_false_iff, usesL_iff x k]; simp
theorem edge_take {m : Nat} {e : Int} (h : e < m) : edge (es.take m) e = edge es e := by
  unfold edge
  split
  · rw [List.getElem?_take, if_pos (by omega)]
  · rfl
theorem edge_some' {F : List EE} {e : Int} {E : EE} (h : edge F e = some E) : 0 ≤ e ∧ e < F.length := by
  unfold edge at h
  split at h
  · have := (List.getElem?_eq_some_iff.1 h).1
    omega
  · cases h
theorem valid_in {m : Nat} (d : DT) : ∀ v : Int, validD (es.take m) d v = true → inD m d = true := by
  induction d using DT.ind with
  | h e k ih =>
    intro v h
    obtain ⟨E, h1, h2, h3, h4⟩ := (validD_iff _ _ _ _).1 h
    have h5 := edge_some' h1
    rw [List.length_take] at h5
    rw [inD, Bool.and_eq_true, inL_iff, decide_eq_true_eq]
    refine ⟨by omega, fun d hd => ?_⟩
    obtain ⟨i, hi⟩ := List.getElem?_of_mem hd
    have hil := (List.getElem?_eq_some_iff.1 hi).1
    exact ih d hd _ (h4 i d _ hi (List.getElem?_eq_getElem (by omega)))
theorem valid_take {m : Nat} (d : DT) (hd : inD m d = true) : ∀ v : Int, validD (es.take m) d v = validD es d v := by
  induction d using DT.ind with
  | h e k ih =>
    intro v
    rw [inD, Bool.and_eq_true, inL_iff, decide_eq_true_eq] at hd
    rw [Bool.eq_iff_iff, validD_iff, validD_iff, edge_take hd.1]
    constructor
    · rintro ⟨E, h1, h2, h3, h4⟩
      exact ⟨E, h1, h2, h3, fun i d t hx ht => by rw [← ih d (List.mem_of_getElem? hx) (hd.2 d (List.mem_of_getElem? hx))]; exact h4 i d t hx ht⟩
    · rintro ⟨E, h1, h2, h3, h4⟩
      exact ⟨E, h1, h2, h3, fun i d t hx ht => by rw [ih d (List.mem_of_getElem? hx) (hd.2 d (List.mem_of_getElem? hx))]; exact h4 i d t hx ht⟩
theorem val_take {m : Nat} (d : DT) (hd : inD m d = true) : val (es.take m) d = val es d := by
  induction d using DT.ind with
  | h e k ih =>
    rw [inD, Bool.and_eq_true, inL_iff, decide_eq_true_eq] at hd
    rw [val, val, edge_take hd.1]
    cases edge es e with
    | none => rfl
    | some E =>
      simp only
      rw [valL_map, valL_map]
      congr 1
      exact List.map_congr_left (fun d hdk => ih d hdk (hd.2 d hdk))
theorem cmpL_take {m : Nat} : ∀ (k : List DT), (∀ d ∈ k, inD m d = true ∧ ∀ f, inD m f = true → cmpD (es.take m) d f = cmpD es d f) → ∀ l, (∀ f ∈ l, inD m f = true) → cmpL (es.take m) k l = cmpL es k l
  | [], _, [], _ => by rw [cmpL, cmpL]
  | [], _, _ :: _, _ => by rw [cmpL, cmpL]
  | _ :: _, _, [], _ => by rw [cmpL, cmpL]
  | d :: k, h, f :: l, hl => by
    rw [cmpL, cmpL, (h d (by simp)).2 f (hl f (by simp)), cmpL_take k (fun d hd => h d (List.mem_cons_of_mem _ hd)) l (fun f hf => hl f (List.mem_cons_of_mem _ hf))]
theorem cmp_take {m : Nat} (a : DT) (ha : inD m a = true) : ∀ b, inD m b = true → cmpD (es.take m) a b = cmpD es a b := by
  induction a using DT.ind with
  | h e k ih =>
    intro b hb
    obtain ⟨f, l⟩ := b
    have h1 := val_take (es := es) _ ha
    have h2 := val_take (es := es) _ hb
    rw [cmpD, cmpD, h1, h2]
    rw [inD, Bool.and_eq_true, inL_iff] at ha hb
    rw [cmpL_take k (fun d hd => ⟨ha.2 d hd, ih d hd (ha.2 d hd)⟩) l hb.2]
theorem in_of_uses {m : Nat} (hm : es.length = m + 1) (d : DT) : ∀ v : Int, validD es d v = true → (inD m d = true ↔ usesD d m = false) := by
  induction d using DT.ind with
  | h e k ih =>
    intro v h
    obtain ⟨E, h1, h2, h3, h4⟩ := (validD_iff _ _ _ _).1 h
    have h5 := edge_some' h1
    rw [inD, usesD, Bool.and_eq_true, Bool.or_eq_false_iff, inL_iff, usesL_iff, decide_eq_true_eq, decide_eq_false_iff_not]
    have hk : ∀ d ∈ k, (inD m d = true ↔ usesD d m = false) := fun d hd => by
      obtain ⟨i, hi⟩ := List.getElem?_of_mem hd
      have hil := (List.getElem?_eq_some_iff.1 hi).1
      exact ih d hd _ (h4 i d _ hi (List.getElem?_eq_getElem (by omega)))
    constructor
    · rintro ⟨g1, g2⟩
      exact ⟨by omega, fun d hd => (hk d hd).1 (g2 d hd)⟩
    · rintro ⟨g1, g2⟩
      exact ⟨by omega, fun d hd => (hk d hd).2 (g2 d hd)⟩
theorem fin_take {m : Nat} (hm : es.length = m + 1) {v : Nat} {d : DT} : FinD (es.take m) v d ↔ FinD es v d ∧ usesD d m = false := by
  unfold FinD
  constructor
  · rintro ⟨h1, h2⟩
    have hi := valid_in d _ h1
    rw [valid_take d hi] at h1
    rw [val_take d hi] at h2
    exact ⟨⟨h1, h2⟩, (in_of_uses hm d _ h1).1 hi⟩
  · rintro ⟨⟨h1, h2⟩, h3⟩
    have hi := (in_of_uses hm d _ h1).2 h3
    rw [valid_take d hi, val_take d hi]
    exact ⟨h1, h2⟩
theorem srt_pw {l : List DT} : (∀ (i j : Nat) (a b : DT), i < j → l[i]? = some a → l[j]? = some b → cmpD es a b < 0) ↔ l.Pairwise (fun a b => cmpD es a b < 0) := by
  rw [List.pairwise_iff_getElem]
  constructor
  · intro h i j hi hj hij
    exact h i j _ _ hij (List.getElem?_eq_getElem hi) (List.getElem?_eq_getElem hj)
  · intro h i j a b hij ha hb
    obtain ⟨hi, rfl⟩ := List.getElem?_eq_some_iff.1 ha
    obtain ⟨hj, rfl⟩ := List.getElem?_eq_some_iff.1 hb
    exact h i j hi hj hij
/-- those that do not use the last hyperedge -/
theorem pre_take {m : Nat} (hm : es.length = m + 1) {v : Nat} {K : List DT} (h : PreD es v K) : PreD (es.take m) v (K.filter (fun d => !usesD d m)) ∧ (FullD es v K → FullD (es.take m) v (K.filter (fun d => !usesD d m))) := by
  have hin : ∀ d ∈ K, usesD d m = false → inD m d = true := fun d hd hu => (in_of_uses hm d _ (h.fin d hd).1).2 hu
  refine ⟨⟨fun d hd => ?_, ?_, fun d hd => ?_⟩, fun hf d hd => ?_⟩
  · obtain ⟨h1, h2⟩ := List.mem_filter.1 hd
    exact (fin_take hm).2 ⟨h.fin d h1, by simpa using h2⟩
  · rw [srt_pw]
    have h1 := (srt_pw.1 h.srt).filter (fun d => !usesD d m)
    refine h1.imp_of_mem (fun {a b} ha hb hab => ?_)
    obtain ⟨a1, a2⟩ := List.mem_filter.1 ha
    obtain ⟨b1, b2⟩ := List.mem_filter.1 hb
    rw [cmp_take a (hin a a1 (by simpa using a2)) b (hin b b1 (by simpa using b2))]
    exact hab
  · obtain ⟨h1, h2⟩ := (fin_take hm).1 hd
    rcases h.all d h1 with h3 | h3
    · exact .inl (List.mem_filter.2 ⟨h3, by simpa using h2⟩)
    · refine .inr (fun x hx => ?_)
      obtain ⟨x1, x2⟩ := List.mem_filter.1 hx
      rw [cmp_take x (hin x x1 (by simpa using x2)) d (valid_in d _ hd.1)]
      exact h3 x x1
  · obtain ⟨h1, h2⟩ := (fin_take hm).1 hd
    exact List.mem_filter.2 ⟨hf d h1, by simpa using h2⟩
end
end Go.Proofs.PK
