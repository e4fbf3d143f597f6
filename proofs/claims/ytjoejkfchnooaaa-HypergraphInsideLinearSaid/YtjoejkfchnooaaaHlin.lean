/-
  Doubling the weights of a node's edges doubles its inside value.
-/
import Derived.Test.YtjoejkfchnooaaaHtop
import Derived.Test.YtjoejkfchnooaaaHins
namespace Go.Proofs.Ytjoejkfchnooaaa
abbrev mulM (a b : Int) : Int := a * b % 65536
abbrev addM (a b : Int) : Int := (a + b) % 65536
theorem fold_congr {α β : Type} (f g : β → α → β) : ∀ (l : List α) (s : β), (∀ i ∈ l, ∀ s, f s i = g s i) → l.foldl f s = l.foldl g s
  | [], _, _ => rfl
  | x :: l, s, h => by
    rw [List.foldl_cons, List.foldl_cons, h x (by simp)]
    exact fold_congr f g l _ (fun i hi => h i (by simp [hi]))
theorem dbl_mul {a1 a2 o : Int} (h : a2 = (2 * a1) % 65536) : a2 * o % 65536 = (2 * (a1 * o % 65536)) % 65536 := by
  have h1 : a2 = 2 * a1 - 65536 * ((2 * a1) / 65536) := by omega
  have h2 : a2 * o = 2 * (a1 * o) - 65536 * (((2 * a1) / 65536) * o) := by
    rw [h1, Int.sub_mul, Int.mul_assoc, Int.mul_assoc]
  rw [h2]
  generalize a1 * o = p
  generalize (2 * a1) / 65536 * o = r
  omega
theorem dbl_edge (es : List EI) (O : Nat → Int) (i : Nat) : ∀ (l : List Nat) (a1 a2 : Int), a2 = (2 * a1) % 65536 → l.foldl (fun a t => mulM a (O t)) a2 = (2 * l.foldl (fun a t => mulM a (O t)) a1) % 65536
  | [], a1, a2, h => h
  | x :: l, a1, a2, h => by
    rw [List.foldl_cons, List.foldl_cons]
    exact dbl_edge es O i l _ _ (dbl_mul h)
theorem dbl_node (es : List EI) (O : Nat → Int) (w1 w2 : List Int) : ∀ (l : List Nat) (s1 s2 : Int), s2 = (2 * s1) % 65536 → (∀ i ∈ l, w2.getD i 0 = (2 * w1.getD i 0) % 65536) →
    l.foldl (fun s i => addM s (edgeV mulM es O (w2.getD i 0) i)) s2 = (2 * l.foldl (fun s i => addM s (edgeV mulM es O (w1.getD i 0) i)) s1) % 65536
  | [], s1, s2, h, _ => h
  | x :: l, s1, s2, h, hw => by
    rw [List.foldl_cons, List.foldl_cons]
    refine dbl_node es O w1 w2 l _ _ ?_ (fun i hi => hw i (by simp [hi]))
    have he : edgeV mulM es O (w2.getD x 0) x = (2 * edgeV mulM es O (w1.getD x 0) x) % 65536 := dbl_edge es O x (tl es x) _ _ (hw x (by simp))
    rw [he]
    generalize edgeV mulM es O (w1.getD x 0) x = e
    unfold addM
    omega
theorem lin_ins {es : List EI} {N v : Nat} {l : List Nat} {w1 w2 : List Int} (h : ordS es N = some l) (hv : v < N)
    (hs : ∀ i, i < es.length → headAt es i ≠ v → w2.getD i 0 = w1.getD i 0) (hd : ∀ i, i < es.length → headAt es i = v → w2.getD i 0 = (2 * w1.getD i 0) % 65536) :
    insO 0 0 mulM addM es w2 es.length l v = (2 * insO 0 0 mulM addM es w1 es.length l v) % 65536 := by
  obtain ⟨hlen, hlt, hinj, hall, htop⟩ := ordS_top h
  have key : ∀ k, k ≤ l.length → ((∀ p, p < k → l[p]? ≠ some v) → (l.take k).foldl (insStep 0 0 mulM addM es w2 es.length) (fun _ => 0) = (l.take k).foldl (insStep 0 0 mulM addM es w1 es.length) (fun _ => 0)) ∧
      ((∃ p, p < k ∧ l[p]? = some v) → (l.take k).foldl (insStep 0 0 mulM addM es w2 es.length) (fun _ => 0) v = (2 * (l.take k).foldl (insStep 0 0 mulM addM es w1 es.length) (fun _ => 0) v) % 65536) := by
    intro k
    induction k with
    | zero => intro _; exact ⟨fun _ => rfl, fun ⟨p, hp, _⟩ => by omega⟩
    | succ k ih =>
      intro hk
      obtain ⟨x, hx⟩ : ∃ x, l[k]? = some x := ⟨_, List.getElem?_eq_getElem (by omega)⟩
      have ihk := ih (by omega)
      rw [List.take_add_one, hx, List.foldl_append, List.foldl_append]
      simp only [Option.toList_some, List.foldl_cons, List.foldl_nil]
      generalize (l.take k).foldl (insStep 0 0 mulM addM es w2 es.length) (fun _ => 0) = O2 at ihk ⊢
      generalize (l.take k).foldl (insStep 0 0 mulM addM es w1 es.length) (fun _ => 0) = O1 at ihk ⊢
      unfold insStep
      refine ⟨fun hn => ?_, fun ⟨p, hp, hp2⟩ => ?_⟩
      · have he := ihk.1 (fun p hp => hn p (by omega))
        subst he
        have hxv : x ≠ v := fun e => hn k (by omega) (by rw [hx, e])
        congr 1
        unfold nodeV
        refine fold_congr _ _ _ _ (fun i hi s => ?_)
        rw [hs i (mem_eof.1 hi).1 (by rw [(mem_eof.1 hi).2]; exact hxv)]
      · by_cases e : p = k
        · subst e
          rw [hx] at hp2
          obtain rfl := Option.some.inj hp2
          have he := ihk.1 (fun q hq hq2 => by have := hinj q p _ hq2 hx; omega)
          subst he
          rw [upd_same, upd_same]
          exact dbl_node es O2 w1 w2 _ 0 0 rfl (fun i hi => hd i (mem_eof.1 hi).1 (mem_eof.1 hi).2)
        · have hxv : v ≠ x := fun e2 => by
            subst e2
            exact e (hinj p k _ hp2 hx)
          rw [upd_other _ _ _ _ hxv, upd_other _ _ _ _ hxv]
          exact ihk.2 ⟨p, by omega, hp2⟩
  have h1 := (key l.length (Nat.le_refl _)).2 (by
    obtain ⟨p, hp⟩ := hall v hv
    exact ⟨p, (List.getElem?_eq_some_iff.1 hp).1, hp⟩)
  rw [List.take_of_length_le (Nat.le_refl _)] at h1
  exact h1
end Go.Proofs.Ytjoejkfchnooaaa
