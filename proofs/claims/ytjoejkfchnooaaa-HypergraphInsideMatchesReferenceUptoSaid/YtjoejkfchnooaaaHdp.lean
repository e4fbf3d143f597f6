/-
  Deriving nodes, as plain mathematics.
-/
import Derived.Test.YtjoejkfchnooaaaHrp
namespace Go.Proofs.Ytjoejkfchnooaaa
def tl (es : List EI) (i : Nat) : List Nat := match es[i]? with | some e => e.t.map Int.toNat | none => []
theorem tl_of {es : List EI} {i : Nat} {e : EI} (h : es[i]? = some e) : tl es i = e.t.map Int.toNat := by unfold tl; rw [h]
inductive Der (es : List EI) : Nat → Prop
  | mk (i : Nat) : i < es.length → (∀ t, t ∈ tl es i → Der es t) → Der es (headAt es i)
theorem countP_mono {α : Type} (p q : α → Bool) (l : List α) (h : ∀ x, q x = true → p x = true) : l.countP q ≤ l.countP p := by
  induction l with
  | nil => simp
  | cons x l ih =>
    rw [List.countP_cons, List.countP_cons]
    cases hq : q x
    · simp; omega
    · rw [h x hq]; simp; omega
theorem countP_le_all {α : Type} (p q : α → Bool) (l : List α) (h : ∀ x, q x = true → p x = true) (hc : l.countP p ≤ l.countP q) : ∀ x ∈ l, p x = true → q x = true := by
  induction l with
  | nil => simp
  | cons y l ih =>
    rw [List.countP_cons, List.countP_cons] at hc
    have h1 := countP_mono p q l h
    intro x hx hp
    rcases List.mem_cons.1 hx with rfl | hx
    · cases hq : q x with
      | true => rfl
      | false => rw [hp, hq] at hc; simp at hc; omega
    · refine ih ?_ x hx hp
      cases hq : q y with
      | true => rw [hq, h y hq] at hc; simp at hc; omega
      | false => rw [hq] at hc; simp at hc; omega
theorem countP_disj (p : Nat → Bool) (v : Nat) (hv : p v = false) (l : List Nat) : l.countP (fun t => p t || t == v) = l.countP p + l.count v := by
  induction l with
  | nil => simp
  | cons x l ih =>
    rw [List.countP_cons, List.countP_cons, List.count_cons, ih]
    by_cases e : x = v
    · subst e; simp [hv]; omega
    · simp [e]; omega
theorem countP_congr' {α : Type} {p q : α → Bool} {l : List α} (h : ∀ x ∈ l, p x = q x) : l.countP p = l.countP q :=
  List.countP_congr (fun x hx => by rw [h x hx])

/-- not yet dealt with: not in, or in and waiting -/
def wt (O : Nat → Bool) (T : List Nat) (t : Nat) : Bool := !(O t) || T.contains t
/-- the lists of uses are right for the first k edges and the first j tails of the k-th -/
def UseOk (es : List EI) (k j N : Nat) (L : Nat → List Nat) : Prop :=
  ∀ v, v < N → ∀ i, (L v).count i = if i < k then (tl es i).count v else if i = k then ((tl es k).take j).count v else 0
structure DP (es : List EI) (N k : Nat) (O : Nat → Bool) (T : List Nat) : Prop where
  a : ∀ v, O v = true → Der es v
  b : ∀ x, O x = true ↔ x ∈ T
  lt : ∀ x ∈ T, x < N
  nd : T.Nodup
  z : ∀ i, i < k → tl es i = [] → O (headAt es i) = true
  e : nF N O + T.length ≤ N
structure DI (es : List EI) (N n : Nat) (L : Nat → List Nat) (O : Nat → Bool) (T : List Nat) (Mi : Nat → Nat) : Prop where
  a : ∀ v, O v = true → Der es v
  b : ∀ x ∈ T, x < N ∧ O x = true
  nd : T.Nodup
  mi : ∀ i, i < n → Mi i = (tl es i).countP (wt O T)
  cl : ∀ i, i < n → Mi i = 0 → O (headAt es i) = true
  e : nF N O + T.length ≤ N
structure DJ (es : List EI) (N n v p M : Nat) (L : List Nat) (O : Nat → Bool) (T : List Nat) (Mi : Nat → Nat) : Prop where
  a : ∀ u, O u = true → Der es u
  b : ∀ x ∈ T, x < N ∧ O x = true
  nd : T.Nodup
  vO : O v = true
  vT : v ∉ T
  mi : ∀ i, i < n → Mi i + (L.take p).count i = (tl es i).countP (fun t => wt O T t || t == v)
  cl : ∀ i, i < n → Mi i = 0 → O (headAt es i) = true
  e : nF N O + T.length ≤ N
  m : 2 * nF N O + T.length < M
/-- a node that is found -/
def fO (O : Nat → Bool) (v : Nat) : Nat → Bool := if O v then O else upd O v true
def fT (O : Nat → Bool) (T : List Nat) (v : Nat) : List Nat := if O v then T else T ++ [v]
theorem fO_mono {O : Nat → Bool} {v i : Nat} (h : O i = true) : fO O v i = true := by unfold fO; split; exact h; exact upd_mono h
theorem fO_self {O : Nat → Bool} {v : Nat} : fO O v v = true := by unfold fO; split; assumption; exact upd_same _ _ _
theorem fO_true {O : Nat → Bool} {v i : Nat} (h : fO O v i = true) : i = v ∨ O i = true := by
  unfold fO at h; split at h
  · exact .inr h
  · exact upd_true h
theorem fT_mem {O : Nat → Bool} {T : List Nat} {v x : Nat} : x ∈ fT O T v ↔ x ∈ T ∨ (O v = false ∧ x = v) := by
  unfold fT; split
  · rename_i h; simp [h]
  · rename_i h; simp [h]
theorem wt_found {O : Nat → Bool} {T : List Nat} {v : Nat} (t : Nat) : wt (fO O v) (fT O T v) t = wt O T t := by
  unfold wt fO fT
  cases h : O v
  · simp only [Bool.false_eq_true, if_false]
    by_cases e : t = v
    · subst e; rw [upd_same, h]; simp
    · rw [upd_other _ _ _ _ e]; simp [e]
  · simp
theorem found_e {O : Nat → Bool} {T : List Nat} {N v : Nat} (hv : v < N) (h : nF N O + T.length ≤ N) : nF N (fO O v) + (fT O T v).length ≤ N := by
  unfold fO fT
  cases ho : O v
  · have := nF_upd N v O hv ho
    simp; omega
  · simpa using h
theorem found_m {O : Nat → Bool} {T : List Nat} {N v M : Nat} (hv : v < N) (h : 2 * nF N O + T.length < M) : 2 * nF N (fO O v) + (fT O T v).length < M := by
  unfold fO fT
  cases ho : O v
  · have := nF_upd N v O hv ho
    simp; omega
  · simpa using h
theorem found_nd {O : Nat → Bool} {T : List Nat} {v : Nat} (hb : ∀ x ∈ T, O x = true) (h : T.Nodup) : (fT O T v).Nodup := by
  unfold fT
  cases ho : O v
  · simp only [Bool.false_eq_true, if_false]
    rw [List.nodup_append]
    refine ⟨h, by simp, fun a ha b hb' => ?_⟩
    simp only [List.mem_singleton] at hb'
    subst hb'
    intro e
    subst e
    rw [hb a ha] at ho; cases ho
  · simpa using h
/-- an edge without tails is met -/
theorem DP.zero {es : List EI} {N k : Nat} {O : Nat → Bool} {T : List Nat} (h : DP es N k O T) (hk : k < es.length) (hz : tl es k = []) (hv : headAt es k < N) : DP es N (k + 1) (fO O (headAt es k)) (fT O T (headAt es k)) :=
  ⟨fun v hv => by
    rcases fO_true hv with rfl | h1
    · exact .mk k hk (by rw [hz]; simp)
    · exact h.a v h1,
   fun x => by
    rw [fT_mem, ← h.b]
    constructor
    · intro h1
      rcases fO_true h1 with rfl | h2
      · cases ho : O (headAt es k)
        · exact .inr ⟨rfl, rfl⟩
        · exact .inl rfl
      · exact .inl h2
    · rintro (h1 | ⟨h1, rfl⟩)
      · exact fO_mono h1
      · exact fO_self,
   fun x hx => by
    rcases fT_mem.1 hx with h1 | ⟨_, rfl⟩
    · exact h.lt x h1
    · exact hv,
   found_nd (fun x hx => (h.b x).2 hx) h.nd,
   fun i hi ht => by
    by_cases e : i = k
    · subst e; exact fO_self
    · exact fO_mono (h.z i (by omega) ht),
   found_e hv h.e⟩
theorem DP.skip {es : List EI} {N k : Nat} {O : Nat → Bool} {T : List Nat} (h : DP es N k O T) (hz : tl es k ≠ []) : DP es N (k + 1) O T :=
  ⟨h.a, h.b, h.lt, h.nd, fun i hi ht => by
    by_cases e : i = k
    · subst e; exact absurd ht hz
    · exact h.z i (by omega) ht, h.e⟩
theorem DP.start (es : List EI) (N : Nat) : DP es N 0 (fun _ => false) [] :=
  ⟨fun v h => (by cases h), fun x => (by simp), fun x h => (by simp at h), by simp, fun i h => (by omega), by unfold nF; simp only [List.length_nil, Nat.add_zero]; exact Nat.le_trans (List.length_filter_le _ _) (Nat.le_of_eq List.length_range)⟩
theorem DP.phase {es : List EI} {N : Nat} {O : Nat → Bool} {T : List Nat} {L : Nat → List Nat} {Mi : Nat → Nat} (h : DP es N es.length O T) (hm : ∀ i, i < es.length → Mi i = (tl es i).length) : DI es N es.length L O T Mi :=
  ⟨h.a, fun x hx => ⟨h.lt x hx, (h.b x).2 hx⟩, h.nd, fun i hi => by
    rw [hm i hi, List.countP_eq_length.2]
    intro t _
    unfold wt
    cases ho : O t
    · rfl
    · simpa using (h.b t).1 ho,
   fun i hi h0 => h.z i hi (List.eq_nil_of_length_eq_zero ((hm i hi).symm.trans h0)), h.e⟩
theorem DI.pop {es : List EI} {N n : Nat} {L : Nat → List Nat} {O : Nat → Bool} {T : List Nat} {Mi : Nat → Nat} {v : Nat} (h : DI es N n L O (T ++ [v]) Mi) : DJ es N n v 0 (2 * nF N O + (T ++ [v]).length) (L v) O T Mi := by
  have hnd := List.nodup_append.1 h.nd
  have hvT : v ∉ T := fun hv => hnd.2.2 v hv v (by simp) rfl
  refine ⟨h.a, fun x hx => h.b x (by simp [hx]), hnd.1, (h.b v (by simp)).2, hvT, fun i hi => ?_, h.cl, by have := h.e; simp at this; omega, by simp⟩
  rw [h.mi i hi]
  simp only [List.take_zero, List.count_nil, Nat.add_zero]
  refine countP_congr' fun t _ => ?_
  unfold wt
  by_cases e : t = v
  · subst e; simp
  · simp [e]
/-- one use of v is dealt with -/
theorem DJ.step {es : List EI} {N n v p M i : Nat} {L : List Nat} {O : Nat → Bool} {T : List Nat} {Mi : Nat → Nat} (h : DJ es N n v p M L O T Mi) (hi : L[p]? = some i) (hin : i < n) (hn : n ≤ es.length) (hL : ∀ i, i < n → L.count i = (tl es i).count v) :
    1 ≤ Mi i ∧ (Mi i = 1 → headAt es i < N → DJ es N n v (p + 1) M L (fO O (headAt es i)) (fT O T (headAt es i)) (upd Mi i 0)) ∧ (Mi i ≠ 1 → DJ es N n v (p + 1) M L O T (upd Mi i (Mi i - 1))) := by
  have htake : ∀ j, (L.take (p + 1)).count j = (L.take p).count j + (if j = i then 1 else 0) := by
    intro j
    rw [List.take_add_one, hi, List.count_append]
    by_cases e : j = i
    · subst e; simp
    · simp [e, Ne.symm e]
  have hle : (L.take (p + 1)).count i ≤ L.count i := List.Sublist.count_le _ (List.take_sublist _ _)
  have hcv : (tl es i).count v ≤ (tl es i).countP (fun t => wt O T t || t == v) := countP_mono _ _ _ (fun x hx => by simp at hx; simp [hx])
  have hmi := h.mi i hin
  have hLi := hL i hin
  have ht := htake i
  rw [if_pos rfl] at ht
  refine ⟨by omega, fun h1 hh => ?_, fun h1 => ?_⟩
  · have hall : ∀ t ∈ tl es i, (wt O T t || t == v) = true → (t == v) = true := by
      refine countP_le_all _ _ _ (fun x hx => by simp at hx; simp [hx]) ?_
      have : (tl es i).countP (fun t => t == v) = (tl es i).count v := rfl
      rw [this]; omega
    have hder : Der es (headAt es i) := by
      refine .mk i (by omega) fun t ht => ?_
      by_cases e : t = v
      · subst e; exact h.a t h.vO
      · cases ho : O t
        · have := hall t ht (by simp [wt, ho])
          simp at this; exact absurd this e
        · exact h.a t ho
    have hvh : v ∉ fT O T (headAt es i) := fun hm => by
      rcases fT_mem.1 hm with hm | ⟨hm, e⟩
      · exact h.vT hm
      · rw [← e, h.vO] at hm; cases hm
    refine ⟨fun u hu => ?_, fun x hx => ?_, found_nd (fun x hx => (h.b x hx).2) h.nd, fO_mono h.vO, hvh, fun j hj => ?_, fun j hj h0 => ?_, found_e hh h.e, found_m hh h.m⟩
    · rcases fO_true hu with rfl | hu
      · exact hder
      · exact h.a u hu
    · rcases fT_mem.1 hx with hx | ⟨_, rfl⟩
      · exact ⟨(h.b x hx).1, fO_mono (h.b x hx).2⟩
      · exact ⟨hh, fO_self⟩
    · have hw : (tl es j).countP (fun t => wt (fO O (headAt es i)) (fT O T (headAt es i)) t || t == v) = (tl es j).countP (fun t => wt O T t || t == v) := countP_congr' fun t _ => by rw [wt_found]
      rw [hw, htake]
      have := h.mi j hj
      by_cases e : j = i
      · subst e; rw [upd_same, if_pos rfl]; omega
      · rw [upd_other _ _ _ _ e, if_neg e]; omega
    · by_cases e : j = i
      · subst e; exact fO_self
      · rw [upd_other _ _ _ _ e] at h0; exact fO_mono (h.cl j hj h0)
  · refine ⟨h.a, h.b, h.nd, h.vO, h.vT, fun j hj => ?_, fun j hj h0 => ?_, h.e, h.m⟩
    · rw [htake]
      have := h.mi j hj
      by_cases e : j = i
      · subst e; rw [upd_same, if_pos rfl]; omega
      · rw [upd_other _ _ _ _ e, if_neg e]; omega
    · by_cases e : j = i
      · subst e; rw [upd_same] at h0; omega
      · rw [upd_other _ _ _ _ e] at h0; exact h.cl j hj h0
theorem DJ.done {es : List EI} {N n v p M : Nat} {L : Nat → List Nat} {O : Nat → Bool} {T : List Nat} {Mi : Nat → Nat} (h : DJ es N n v p M (L v) O T Mi) (hp : (L v).length ≤ p) (hL : ∀ i, i < n → (L v).count i = (tl es i).count v) : DI es N n L O T Mi :=
  ⟨h.a, h.b, h.nd, fun i hi => by
    have h1 := h.mi i hi
    rw [List.take_of_length_le hp, hL i hi, countP_disj (wt O T) v (by
      unfold wt; rw [h.vO]; simp [h.vT])] at h1
    omega, h.cl, h.e⟩
theorem DI.all {es : List EI} {N : Nat} {L : Nat → List Nat} {O : Nat → Bool} {Mi : Nat → Nat} (h : DI es N es.length L O [] Mi) : ∀ v, O v = true ↔ Der es v := fun v => ⟨h.a v, fun hd => by
  induction hd with
  | mk i hi ht ih =>
    refine h.cl i hi ?_
    rw [h.mi i hi, List.countP_eq_zero]
    intro t ht'
    unfold wt
    rw [ih t ht']
    simp⟩
open Classical in
noncomputable def derL (es : List EI) (N : Nat) : List Bool := (List.range N).map (fun i => decide (Der es i))
open Classical in
theorem derL_eq {es : List EI} {N : Nat} {O : Nat → Bool} (h : ∀ i, i < N → (O i = true ↔ Der es i)) : derL es N = (List.range N).map O := by
  unfold derL
  apply List.map_congr_left
  intro i hi
  rw [Bool.eq_iff_iff]
  simp [h i (List.mem_range.1 hi)]
/-- a use is noted -/
theorem UseOk.push {es : List EI} {k j N t : Nat} {L : Nat → List Nat} (h : UseOk es k j N L) (ht : (tl es k)[j]? = some t) : UseOk es k (j + 1) N (upd L t (L t ++ [k])) := by
  intro v hv i
  have h1 := h v hv i
  have h2 : ((tl es k).take (j + 1)).count v = ((tl es k).take j).count v + (if v = t then 1 else 0) := by
    rw [List.take_add_one, ht, List.count_append]
    by_cases e : v = t
    · subst e; simp
    · simp [e, Ne.symm e]
  by_cases e : v = t
  · subst e
    rw [upd_same, List.count_append, h1]
    rw [if_pos rfl] at h2
    by_cases hik : i < k
    · rw [if_pos hik, if_pos hik]
      have : k ≠ i := by omega
      simp [this]
    · rw [if_neg hik, if_neg hik]
      by_cases hk : i = k
      · subst hk; simp [h2]
      · rw [if_neg hk, if_neg hk]; simp [Ne.symm hk]
  · rw [upd_other _ _ _ _ e, h1]
    rw [if_neg e] at h2
    rw [h2]; rfl
theorem UseOk.next {es : List EI} {k j N : Nat} {L : Nat → List Nat} (h : UseOk es k j N L) (hj : (tl es k).length ≤ j) : UseOk es (k + 1) 0 N L := by
  intro v hv i
  rw [h v hv i]
  by_cases h1 : i < k
  · rw [if_pos h1, if_pos (by omega)]
  · rw [if_neg h1]
    by_cases h2 : i = k
    · subst h2; rw [if_pos rfl, if_pos (by omega), List.take_of_length_le hj]
    · rw [if_neg h2, if_neg (by omega)]
      by_cases h3 : i = k + 1
      · subst h3; simp
      · rw [if_neg h3]
theorem UseOk.start (es : List EI) (N : Nat) : UseOk es 0 0 N (fun _ => []) := by
  intro v hv i
  by_cases h : i = 0
  · subst h; simp
  · simp [h]
end Go.Proofs.Ytjoejkfchnooaaa
