/-
  Reaching nodes, as plain mathematics.
-/
import Derived.Test.YtjoejkfchnooaaaHedge
namespace Go.Proofs.Ytjoejkfchnooaaa
/-- how many of the first N are not yet in -/
def nF (N : Nat) (O : Nat → Bool) : Nat := ((List.range N).filter (fun i => !O i)).length
theorem nF_succ (N : Nat) (O : Nat → Bool) : nF (N + 1) O = nF N O + (if O N = true then 0 else 1) := by
  unfold nF
  rw [List.range_succ, List.filter_append, List.length_append]
  cases h : O N <;> simp [h]
theorem nF_upd_ge (N t : Nat) (O : Nat → Bool) (h : N ≤ t) (b : Bool) : nF N (upd O t b) = nF N O := by
  induction N with
  | zero => rfl
  | succ N ih =>
    rw [nF_succ, nF_succ, ih (by omega), upd_other _ _ _ _ (by omega)]
theorem nF_upd (N t : Nat) (O : Nat → Bool) (ht : t < N) (ho : O t = false) : nF N (upd O t true) + 1 = nF N O := by
  induction N with
  | zero => omega
  | succ N ih =>
    rw [nF_succ, nF_succ]
    by_cases e : t = N
    · subst e
      rw [upd_same, nF_upd_ge _ _ _ (Nat.le_refl _), ho]; simp
    · rw [upd_other _ _ _ _ (fun h => e h.symm)]
      have := ih (by omega)
      omega
theorem upd_mono {O : Nat → Bool} {t i : Nat} (h : O i = true) : upd O t true i = true := by
  unfold upd; split
  · rfl
  · exact h
theorem upd_true {O : Nat → Bool} {t i : Nat} (h : upd O t true i = true) : i = t ∨ O i = true := by
  unfold upd at h; split at h
  · left; assumption
  · right; exact h

/-- the same, read off memory -/
def nFw (w : World) (b N : Nat) : Nat := nF N (fun i => match w.cell? ⟨b, i, none⟩ with | some (.bool true) => true | _ => false)
theorem nF_congr {N : Nat} {O O' : Nat → Bool} (h : ∀ i, i < N → O i = O' i) : nF N O = nF N O' := by
  unfold nF
  rw [List.filter_congr (fun i hi => by rw [h i (List.mem_range.1 hi)])]
theorem nFw_eq {w : World} {b N : Nat} {t : TypeId} {O : Nat → Bool} (h : w.rowIs b t N (fun i => .bool (O i))) : nFw w b N = nF N O :=
  nF_congr fun i hi => by
    rw [h.cell hi]
    cases O i <;> rfl
def lenOf : Value → Nat
  | .slice _ n _ => n
  | _ => 0
theorem rd_row {w : World} {b N : Nat} {t : TypeId} {α : Type} {f : α → Value} {O : Nat → α} (h : w.rowIs b t N (fun i => f (O i))) : Rd1 w (some ⟨b, 0, none⟩) f ((List.range N).map O) := by
  intro i x hx
  rw [List.getElem?_map] at hx
  obtain ⟨k, hk, rfl⟩ := Option.map_eq_some_iff.1 hx
  obtain ⟨h1, h2⟩ := List.getElem?_eq_some_iff.1 hk
  simp at h1 h2
  subst h2
  exact ⟨b, 0, rfl, by rw [Nat.zero_add]; exact h.cell h1⟩
theorem row_upd {w : World} {b N i : Nat} {t : TypeId} {α : Type} {f : α → Value} {O : Nat → α} {x : α} (h : w.rowIs b t N (fun i => f (O i))) : (w.setCell ⟨b, i, none⟩ (f x)).rowIs b t N (fun j => f (upd O i x j)) :=
  (h.set i _).congr (fun j _ => by unfold upd; split <;> rfl)

inductive Rch (es : List EI) (r : Nat) : Nat → Prop
  | root : Rch es r r
  | step {v : Nat} {e : EI} {t : Int} : Rch es r v → e ∈ es → e.h.toNat = v → t ∈ e.t → Rch es r t.toNat
/-- what v reaches at once is in -/
def Cl (es : List EI) (O : Nat → Bool) (v : Nat) : Prop := ∀ e ∈ es, e.h.toNat = v → ∀ t ∈ e.t, O t.toNat = true
theorem Cl.mono {es : List EI} {O : Nat → Bool} {v t : Nat} (h : Cl es O v) : Cl es (upd O t true) v := fun e he hv x hx => upd_mono (h e he hv x hx)
structure RI (es : List EI) (r N : Nat) (O : Nat → Bool) (T : List Nat) : Prop where
  a : ∀ i, O i = true → Rch es r i
  b : ∀ x ∈ T, x < N ∧ O x = true
  c : ∀ v, O v = true → v ∉ T → Cl es O v
  d : O r = true
  e : 2 * nF N O + T.length ≤ 2 * N
structure RJ (es : List EI) (r N v p M : Nat) (L : List Nat) (O : Nat → Bool) (T : List Nat) : Prop where
  a : ∀ i, O i = true → Rch es r i
  b : ∀ x ∈ T, x < N ∧ O x = true
  c : ∀ u, O u = true → u ∉ T → u ≠ v → Cl es O u
  d : O r = true
  v : O v = true
  g : ∀ i ∈ L.take p, ∀ e, es[i]? = some e → ∀ t ∈ e.t, O t.toNat = true
  m : 2 * nF N O + T.length < M
  hM : M ≤ 2 * N
theorem RI.pop {es : List EI} {r N : Nat} {O : Nat → Bool} {T : List Nat} {v : Nat} {L : List Nat} (h : RI es r N O (T ++ [v])) : RJ es r N v 0 (2 * nF N O + (T ++ [v]).length) L O T :=
  ⟨h.a, fun x hx => h.b x (by simp [hx]), fun u hu hT hv => h.c u hu (by simp [hT, hv]), h.d, (h.b v (by simp)).2, fun i hi => by simp at hi, by simp, h.e⟩
theorem RJ.mark {es : List EI} {r N v p M : Nat} {L : List Nat} {O : Nat → Bool} {T : List Nat} {t : Nat} (h : RJ es r N v p M L O T) (ht : t < N) (ho : O t = false) (hr : Rch es r t) : RJ es r N v p M L (upd O t true) (T ++ [t]) :=
  ⟨fun i hi => by
    rcases upd_true hi with rfl | hi
    · exact hr
    · exact h.a i hi,
   fun x hx => by
    rcases List.mem_append.1 hx with hx | hx
    · exact ⟨(h.b x hx).1, upd_mono (h.b x hx).2⟩
    · simp only [List.mem_singleton] at hx; subst hx; exact ⟨ht, upd_same _ _ _⟩,
   fun u hu hT hv => by
    have h1 : u ≠ t := fun e => hT (by simp [e])
    have h2 : O u = true := (upd_true hu).resolve_left h1
    exact (h.c u h2 (fun e => hT (by simp [e])) hv).mono,
   upd_mono h.d, upd_mono h.v, fun i hi e he t ht => upd_mono (h.g i hi e he t ht),
   by have h1 := nF_upd N t O ht ho
      have h2 := h.m
      simp only [List.length_append, List.length_cons, List.length_nil]
      omega, h.hM⟩
theorem RJ.next {es : List EI} {r N v p M : Nat} {L : List Nat} {O : Nat → Bool} {T : List Nat} {i : Nat} {e : EI} (h : RJ es r N v p M L O T) (hi : L[p]? = some i) (he : es[i]? = some e) (hk : ∀ t ∈ e.t, O t.toNat = true) : RJ es r N v (p + 1) M L O T :=
  ⟨h.a, h.b, h.c, h.d, h.v, fun j hj e' he' t ht => by
    rw [List.take_add_one, hi] at hj
    rcases List.mem_append.1 hj with hj | hj
    · exact h.g j hj e' he' t ht
    · simp only [Option.toList_some, List.mem_singleton] at hj
      subst hj
      rw [he] at he'
      obtain rfl := Option.some.inj he'
      exact hk t ht, h.m, h.hM⟩
theorem mem_eof {es : List EI} {n v i : Nat} : i ∈ eof es n v ↔ i < n ∧ headAt es i = v := by
  unfold eof; simp
theorem headAt_of {es : List EI} {i : Nat} {e : EI} (h : es[i]? = some e) : headAt es i = e.h.toNat := by unfold headAt; rw [h]
theorem RJ.done {es : List EI} {r N v p M : Nat} {O : Nat → Bool} {T : List Nat} (h : RJ es r N v p M (eof es es.length v) O T) (hp : (eof es es.length v).length ≤ p) : RI es r N O T :=
  ⟨h.a, h.b, fun u hu hT => by
    by_cases e : u = v
    · subst e
      intro e he hv t ht
      obtain ⟨i, hi⟩ := List.mem_iff_getElem?.1 he
      have hlt : i < es.length := (List.getElem?_eq_some_iff.1 hi).1
      exact h.g i (by rw [List.take_of_length_le hp]; exact mem_eof.2 ⟨hlt, by rw [headAt_of hi]; exact hv⟩) e hi t ht
    · exact h.c u hu hT e, h.d, by have := h.m; have := h.hM; omega⟩
theorem RI.all {es : List EI} {r N : Nat} {O : Nat → Bool} (h : RI es r N O []) : ∀ i, O i = true ↔ Rch es r i := fun i => ⟨h.a i, fun hr => by
  induction hr with
  | root => exact h.d
  | step hv he hh ht ih => exact h.c _ ih (by simp) _ he hh _ ht⟩
open Classical in
noncomputable def rchL (es : List EI) (r N : Nat) : List Bool := (List.range N).map (fun i => decide (Rch es r i))
open Classical in
theorem rchL_eq {es : List EI} {r N : Nat} {O : Nat → Bool} (h : ∀ i, O i = true ↔ Rch es r i) : rchL es r N = (List.range N).map O := by
  unfold rchL
  apply List.map_congr_left
  intro i _
  rw [Bool.eq_iff_iff]
  simp [h]
/-- as Go's function answers, for any root -/
noncomputable def reachL (es : List EI) (N : Nat) (r : Int) : List Bool := if 0 ≤ r ∧ r < N then rchL es r.toNat N else List.replicate N false
end Go.Proofs.Ytjoejkfchnooaaa
