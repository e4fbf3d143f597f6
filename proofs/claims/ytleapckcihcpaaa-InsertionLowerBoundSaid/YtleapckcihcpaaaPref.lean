/-
  Least values as plain mathematics: what the reference's iteration keeps, why it ends, what both solvers have found; the chosen hyperedges.
-/
import Derived.Test.YtleapckcihcpaaaPder
namespace Go.Proofs.PK
def rank (v : VV) : Nat := v.c.toNat * 1099511627777 + v.s.toNat
theorem rank_lt {a b : VV} (ha : okV a) (hb : okV b) (h : ltV a b = true) : rank a < rank b := by
  obtain ⟨a1, a2, a3, a4, _⟩ := ha
  obtain ⟨b1, b2, b3, b4, _⟩ := hb
  unfold ltV at h
  simp only [Bool.or_eq_true, Bool.and_eq_true, decide_eq_true_eq] at h
  unfold rank INF at *
  omega
def rsum (V : Nat → VV) : Nat → Nat
  | 0 => 0
  | n + 1 => rsum V n + rank (V n)
theorem rsum_congr {V W : Nat → VV} : ∀ n, (∀ i, i < n → V i = W i) → rsum V n = rsum W n
  | 0, _ => rfl
  | n + 1, h => by rw [rsum, rsum, rsum_congr n (fun i hi => h i (by omega)), h n (by omega)]
theorem rsum_upd {V : Nat → VV} {i : Nat} {x : VV} (hx : rank x < rank (V i)) : ∀ n, i < n → rsum (upd V i x) n < rsum V n
  | 0, h => by omega
  | n + 1, h => by
    rw [rsum, rsum]
    by_cases e : i = n
    · subst e
      rw [upd_same, rsum_congr (V := upd V i x) (W := V) i (fun j hj => upd_other _ _ _ _ (by omega))]
      omega
    · rw [upd_other _ _ _ _ (fun h => e h.symm)]
      have := rsum_upd hx n (by omega)
      omega
section
variable (es : List EE)
def Above (V : Nat → VV) : Prop := ∀ W : Nat → VV, (∀ v, okV (W v)) → Closed es W → ∀ v, leV (W v) (V v)
/-- least values -/
structure Sol (V : Nat → VV) : Prop where
  ok : ∀ v, okV (V v)
  closed : Closed es V
  above : Above es V
variable {es}
theorem Sol.unique {V W : Nat → VV} (h : Sol es V) (k : Sol es W) : V = W := by
  funext v
  exact leV_antisymm (k.above V h.ok h.closed v) (h.above W k.ok k.closed v)
theorem sol_of_reached {K : Nat → VV} (hes : ∀ e ∈ es, okE e) (hK : ∀ v, okV (K v)) (hr : ∀ v, K v = top ∨ Reached es K v) (hck : Closed es K) : Sol es K :=
  ⟨hK, hck, fun _ hW hc v => closed_le es hes hW hK hc hr v⟩
theorem above_top : Above es (fun _ => top) := fun _ hW _ v => leV_top (hW v)
theorem Above.step {V : Nat → VV} (hes : ∀ e ∈ es, okE e) (hV : ∀ v, okV (V v)) (h : Above es V) {e : EE} (he : e ∈ es) : Above es (upd V e.h (ev V e)) := by
  intro W hW hc v
  have := above_step es hes hV hW hc (fun v => h W hW hc v) he v
  unfold upd
  exact this
theorem ok_upd {V : Nat → VV} {i : Nat} {x : VV} (hV : ∀ v, okV (V v)) (hx : okV x) : ∀ v, okV (upd V i x v) := by
  intro v
  unfold upd
  split
  · exact hx
  · exact hV v
/-- the least of some values -/
def least : List VV → VV
  | [] => top
  | a :: l => if ltV a (least l) = true then a else least l
theorem least_le : ∀ (l : List VV) (a : VV), a ∈ l → leV (least l) a
  | b :: l, a, h => by
    rw [least]
    split
    · rename_i hb
      rcases List.mem_cons.1 h with rfl | h
      · exact leV_refl _
      · exact leV_trans (leV_of_lt hb) (least_le l a h)
    · rename_i hb
      rcases List.mem_cons.1 h with rfl | h
      · exact leV_of_not_lt (by simpa using hb)
      · exact least_le l a h
theorem least_mem : ∀ l : List VV, least l = top ∨ least l ∈ l
  | [] => .inl rfl
  | b :: l => by
    rw [least]
    split
    · exact .inr (by simp)
    · rcases least_mem l with h | h
      · exact .inl h
      · exact .inr (by simp [h])
/-- a least value is attained -/
theorem Sol.attained {V : Nat → VV} (hes : ∀ e ∈ es, okE e) (h : Sol es V) (v : Nat) : V v = top ∨ ∃ e ∈ es, e.h = v ∧ ev V e = V v := by
  let M := least ((es.filter (fun e => decide (e.h = v))).map (ev V))
  have hM : okV M ∧ (M = top ∨ ∃ e ∈ es, e.h = v ∧ ev V e = M) := by
    rcases least_mem ((es.filter (fun e => decide (e.h = v))).map (ev V)) with h1 | h1
    · exact ⟨by show okV (least _); rw [h1]; exact okV_top, .inl h1⟩
    · obtain ⟨e, he, h2⟩ := List.mem_map.1 h1
      rw [List.mem_filter] at he
      exact ⟨by show okV (least _); rw [← h2]; exact ev_ok (hes e he.1) h.ok, .inr ⟨e, he.1, by simpa using he.2, h2⟩⟩
  have hVM : leV (V v) M := by
    rcases hM.2 with h1 | ⟨e, he, h1, h2⟩
    · rw [h1]; exact leV_top (h.ok v)
    · rw [← h2, ← h1]; exact h.closed e he
  have hVW : ∀ u, leV (V u) (upd V v M u) := by
    intro u
    by_cases e : u = v
    · subst e; rw [upd_same]; exact hVM
    · rw [upd_other _ _ _ _ e]; exact leV_refl _
  have hWo := ok_upd (i := v) h.ok hM.1
  have hcl : Closed es (upd V v M) := by
    intro e he
    have hm := ev_mono (e := e) (hes e he) h.ok hWo (fun t _ => hVW t)
    by_cases e1 : e.h = v
    · rw [e1, upd_same]
      refine leV_trans ?_ hm
      exact least_le _ _ (List.mem_map.2 ⟨e, List.mem_filter.2 ⟨he, by simp [e1]⟩, rfl⟩)
    · rw [upd_other _ _ _ _ e1]
      exact leV_trans (h.closed e he) hm
  have hle := h.above _ hWo hcl v
  rw [upd_same] at hle
  have heq : V v = M := leV_antisymm hVM hle
  rcases hM.2 with h1 | ⟨e, he, h1, h2⟩
  · exact .inl (heq.trans h1)
  · exact .inr ⟨e, he, h1, h2.trans heq.symm⟩
end
/-! ### the chosen hyperedges -/
/-- does hyperedge e attain the value of node i, below the infinite? -/
def att (V : Nat → VV) (i : Nat) (e : EE) : Bool := decide (e.h = i) && decide ((V i).c < INF) && decide (ev V e = V i)
/-- the first that does, numbered from k on -/
def chL (V : Nat → VV) : List EE → Int → Nat → Int
  | [], _, _ => -1
  | e :: l, k, i => if att V i e = true then k else chL V l (k + 1) i
theorem chL_bd (V : Nat → VV) : ∀ (l : List EE) (k : Int) (i : Nat), chL V l k i = -1 ∨ (k ≤ chL V l k i ∧ chL V l k i < k + l.length)
  | [], _, _ => .inl rfl
  | e :: l, k, i => by
    rw [chL]
    split
    · right; simp only [List.length_cons]; omega
    · rcases chL_bd V l (k + 1) i with h | h
      · exact .inl h
      · right; simp only [List.length_cons]; omega
theorem chL_append (V : Nat → VV) : ∀ (l : List EE) (k : Int) (i : Nat) (e : EE), 0 ≤ k → chL V (l ++ [e]) k i = if chL V l k i < 0 ∧ att V i e = true then k + l.length else chL V l k i
  | [], k, i, e, _ => by
    simp only [List.nil_append, chL, List.length_nil]
    by_cases h : att V i e = true
    · simp [h]
    · simp [h]
  | x :: l, k, i, e, hk => by
    rw [List.cons_append, chL, chL]
    by_cases h : att V i x = true
    · rw [if_pos h, if_pos h, if_neg (by omega)]
    · rw [if_neg h, if_neg h, chL_append V l (k + 1) i e (by omega)]
      simp only [List.length_cons]
      split <;> omega
theorem chL_none {V : Nat → VV} : ∀ {l : List EE} {k : Int} {i : Nat}, 0 ≤ k → chL V l k i < 0 → ∀ e ∈ l, att V i e = false
  | [], _, _, _, _ => by simp
  | x :: l, k, i, hk, h => by
    rw [chL] at h
    by_cases h1 : att V i x = true
    · rw [if_pos h1] at h; omega
    · rw [if_neg h1] at h
      intro e he
      rcases List.mem_cons.1 he with rfl | he
      · simpa using h1
      · exact chL_none (by omega) h e he
/-- what was chosen -/
theorem chL_some {V : Nat → VV} : ∀ {l : List EE} {k : Int} {i : Nat}, 0 ≤ k → 0 ≤ chL V l k i → ∃ (j : Nat) (e : EE), chL V l k i = k + j ∧ l[j]? = some e ∧ att V i e = true ∧ ∀ (m : Nat) (f : EE), m < j → l[m]? = some f → att V i f = false
  | [], _, _, _, h => by simp [chL] at h
  | x :: l, k, i, hk, h => by
    rw [chL] at h ⊢
    by_cases h1 : att V i x = true
    · rw [if_pos h1]
      exact ⟨0, x, by simp, rfl, h1, fun m f hm => by omega⟩
    · rw [if_neg h1] at h ⊢
      obtain ⟨j, e, h2, h3, h4, h5⟩ := chL_some (k := k + 1) (by omega) h
      refine ⟨j + 1, e, by rw [h2]; push_cast; omega, by simpa using h3, h4, fun m f hm hf => ?_⟩
      cases m with
      | zero => simp at hf; subst hf; simpa using h1
      | succ m => exact h5 m f (by omega) (by simpa using hf)
end Go.Proofs.PK
