/-
  Least derivations are derivations in the forest, as plain mathematics.
-/
import Derived.Test.YtoiffhoiklafhaaF17p
namespace Go.Proofs.Ytoiffhoiklafhaa
open PK
/-- pointwise not greater -/
theorem sums_le : ∀ (l1 l2 : List VV), l1.length = l2.length → (∀ (i : Nat) a b, l1[i]? = some a → l2[i]? = some b → leV a b) → sC l1 ≤ sC l2 ∧ (sC l1 = sC l2 → sS l1 ≤ sS l2 ∧ (sS l1 = sS l2 → l1 = l2))
  | [], [], _, _ => ⟨Int.le_refl _, fun _ => ⟨Int.le_refl _, fun _ => rfl⟩⟩
  | [], _ :: _, h, _ => by simp at h
  | _ :: _, [], h, _ => by simp at h
  | a :: l1, b :: l2, hl, h => by
    have h0 := h 0 a b rfl rfl
    obtain ⟨i1, i2⟩ := sums_le l1 l2 (by simpa using hl) (fun i x y hx hy => h (i + 1) x y (by rw [List.getElem?_cons_succ]; exact hx) (by rw [List.getElem?_cons_succ]; exact hy))
    simp only [sC, sS]
    unfold leV at h0
    refine ⟨by omega, fun hc => ?_⟩
    have e1 : a.c = b.c := by omega
    obtain ⟨i3, i4⟩ := i2 (by omega)
    have e2 : a.s ≤ b.s := by omega
    refine ⟨by omega, fun hs => ?_⟩
    have e3 : a.s = b.s := by omega
    rw [i4 (by omega)]
    obtain ⟨ac, as'⟩ := a
    obtain ⟨bc, bs⟩ := b
    simp only at e1 e3
    rw [e1, e3]
theorem comb_exact {c : Int} {l : List VV} (hc : 0 ≤ c ∧ c ≤ INF) (hl : ∀ v ∈ l, okV v) (h1 : (comb c l).c < INF) (h2 : (comb c l).s < INF) : (comb c l).c = c + sC l ∧ (comb c l).s = 1 + sS l := by
  unfold comb at h1 h2 ⊢
  split at h1
  · unfold top at h1; exact absurd h1 (by simp)
  · rename_i hn
    rw [if_neg hn] at h2 ⊢
    have := fold_exact l (c, 1) hl hc.1 hc.2 (by show (1 : Int) ≤ 1; decide) (by show (1 : Int) ≤ INF; decide) h1 h2
    rw [this]
    exact ⟨rfl, rfl⟩
/-- a least derivation is made of a tight hyperedge and least derivations -/
theorem least_tight {es : List EE} {V : Nat → VV} (hes : ∀ e ∈ es, PK.okE e) (hS : Sol es V) (hs : ∀ v, (V v).s < INF) {e : Int} {k : List DT} {q : Nat} (hv : validD es (.node e k) (q : Int) = true) (hval : val es (.node e k) = V q) (hf : (V q).c < INF) :
    ∃ E, edge es e = some E ∧ E.h = q ∧ E.t.length = k.length ∧ ev V E = V q ∧ ∀ (i : Nat) d t, k[i]? = some d → E.t[i]? = some t → validD es d (t : Int) = true ∧ val es d = V t ∧ (V t).c < INF := by
  obtain ⟨E, e1, e2, e3, e4⟩ := (validD_iff _ _ _ _).1 hv
  have hq : E.h = q := by omega
  have h1 := ev_le_val hes hS e1 e3 e4
  have hE : E ∈ es := edge_mem e1
  have h2 := hS.closed E hE
  rw [hq] at h2
  rw [hval] at h1
  have hev : ev V E = V q := leV_antisymm h1 h2
  have hval2 : comb E.c (k.map (val es)) = V q := by
    rw [← hval, val, e1]; simp only; rw [valL_map]
  have ok1 : ∀ v ∈ E.t.map V, okV v := fun v hv => by obtain ⟨t, _, rfl⟩ := List.mem_map.1 hv; exact hS.ok t
  have ok2 : ∀ v ∈ k.map (val es), okV v := fun v hv => by obtain ⟨d, _, rfl⟩ := List.mem_map.1 hv; exact val_ok hes d
  have x1 := comb_exact (c := E.c) (l := E.t.map V) (hes E hE) ok1 (by rw [show comb E.c (E.t.map V) = V q from hev]; exact hf) (by rw [show comb E.c (E.t.map V) = V q from hev]; exact hs q)
  have x2 := comb_exact (c := E.c) (l := k.map (val es)) (hes E hE) ok2 (by rw [hval2]; exact hf) (by rw [hval2]; exact hs q)
  rw [show comb E.c (E.t.map V) = V q from hev] at x1
  rw [hval2] at x2
  have hpw : ∀ (i : Nat) a b, (E.t.map V)[i]? = some a → (k.map (val es))[i]? = some b → leV a b := by
    intro i a b ha hb
    rw [List.getElem?_map] at ha hb
    obtain ⟨t, ht, rfl⟩ := Option.map_eq_some_iff.1 ha
    obtain ⟨d, hd, rfl⟩ := Option.map_eq_some_iff.1 hb
    exact le_val hes hS (e4 i d t hd ht)
  have heq := ((sums_le (E.t.map V) (k.map (val es)) (by simp [e3]) hpw).2 (by omega)).2 (by omega)
  refine ⟨E, e1, hq, e3, hev, fun i d t hd ht => ?_⟩
  have hvt : val es d = V t := by
    have h9 : (E.t.map V)[i]? = (k.map (val es))[i]? := by rw [heq]
    rw [List.getElem?_map, List.getElem?_map, ht, hd] at h9
    simpa using h9.symm
  refine ⟨e4 i d t hd ht, hvt, ?_⟩
  have hc : ∀ (l : List VV) v, (∀ v ∈ l, okV v) → v ∈ l → v.c ≤ sC l := by
    intro l
    induction l with
    | nil => intro v _ h; simp at h
    | cons a l ih =>
      intro v hl h
      rw [sC]
      have h5 := sC_pos l (fun y hy => hl y (by simp [hy]))
      have h6 := (hl a (by simp)).1
      rcases List.mem_cons.1 h with rfl | h
      · omega
      · have := ih v (fun y hy => hl y (by simp [hy])) h; omega
  have h7 := hc _ (V t) ok1 (List.mem_map.2 ⟨t, List.mem_of_getElem? ht, rfl⟩)
  have h8 := (hes E hE).1
  omega
/-- numbers back into the forest -/
def backL (n : Nat) (f : List Nat) : Nat → List Int
  | 0 => List.replicate n (-1)
  | j + 1 => (backL n f j).set (f.getD j 0) (j : Int)
theorem backL_len (n : Nat) (f : List Nat) : ∀ j, (backL n f j).length = n
  | 0 => by simp [backL]
  | j + 1 => by rw [backL, List.length_set, backL_len n f j]
theorem backL_at {n : Nat} {f : List Nat} (hinj : ∀ (i j : Nat) k, f[i]? = some k → f[j]? = some k → i = j) (hlt : ∀ k ∈ f, k < n) : ∀ (j i : Nat) k, j ≤ f.length → i < j → f[i]? = some k → (backL n f j)[k]? = some (i : Int)
  | 0, i, k, _, h, _ => by omega
  | j + 1, i, k, hjl, h, hk => by
    rw [backL, List.getElem?_set]
    have hkn := hlt k (List.mem_of_getElem? hk)
    by_cases e : i = j
    · subst e
      rw [if_pos (by rw [List.getD_eq_getElem?_getD, hk]; rfl), if_pos (by rw [backL_len, List.getD_eq_getElem?_getD, hk]; exact hkn)]
    · have hne : ¬ f.getD j 0 = k := by
        intro e2
        cases hj : f[j]? with
        | some x =>
          rw [List.getD_eq_getElem?_getD, hj] at e2
          simp only [Option.getD_some] at e2
          subst e2
          exact e (hinj i j x hk hj)
        | none =>
          have h1 := (List.getElem?_eq_some_iff.1 hk).1
          have h2 := List.getElem?_eq_none_iff.1 hj
          omega
      rw [if_neg hne]
      exact backL_at hinj hlt j i k (by omega) (by omega) hk
theorem fI_mem {N : Nat} {V : Nat → VV} {es : List EI} {r : Int} {i k : Nat} (h : (fI N V es r)[i]? = some k) : ∃ x, (fE N V es r)[i]? = some x ∧ es[k]? = some x ∧ (x, k) ∈ fP N V es r := by
  unfold fI at h
  rw [List.getElem?_map] at h
  obtain ⟨p, hp, rfl⟩ := Option.map_eq_some_iff.1 h
  have hm := List.mem_of_getElem? hp
  exact ⟨p.1, by unfold fE; rw [List.getElem?_map, hp]; rfl, (mem_fP.1 hm).1, hm⟩
theorem fI_inj {N : Nat} {V : Nat → VV} {es : List EI} {r : Int} (i j k : Nat) (h1 : (fI N V es r)[i]? = some k) (h2 : (fI N V es r)[j]? = some k) : i = j := by
  have hnd : (fI N V es r).Pairwise (· < ·) := by
    unfold fI fP tP
    rw [List.filter_filter]
    have hz : (es.zipIdx.map Prod.snd).Pairwise (· < ·) := by
      rw [List.zipIdx_map_snd]
      exact List.pairwise_lt_range'
    exact List.Pairwise.sublist (List.Sublist.map Prod.snd List.filter_sublist) hz
  obtain ⟨hi, e1⟩ := List.getElem?_eq_some_iff.1 h1
  obtain ⟨hj, e2⟩ := List.getElem?_eq_some_iff.1 h2
  have hp := List.pairwise_iff_getElem.1 hnd
  rcases Nat.lt_trichotomy i j with h | h | h
  · have := hp i j hi hj h; omega
  · exact h
  · have := hp j i hj hi h; omega
theorem fP_at {N : Nat} {V : Nat → VV} {es : List EI} {r : Int} {j : Nat} {x : EI} (hx : es[j]? = some x) (ht : tgt V x = true) (hr : rchB N V es r x.h.toNat = true) : ∃ i : Nat, (fI N V es r)[i]? = some j ∧ (fE N V es r)[i]? = some x := by
  obtain ⟨i, hi⟩ := List.mem_iff_getElem?.1 (mem_fP.2 ⟨hx, ht, hr⟩ : (x, j) ∈ fP N V es r)
  exact ⟨i, by unfold fI; rw [List.getElem?_map, hi]; rfl, by unfold fE; rw [List.getElem?_map, hi]; rfl⟩
theorem back_forest {N : Nat} {V : Nat → VV} {es : List EI} {r : Int} (hes : ∀ e ∈ EEs es, PK.okE e) (hS : Sol (EEs es) V) (hs : ∀ v, (V v).s < INF) (d : DT) : ∀ q : Nat, rchB N V es r q = true → validD (EEs es) d (q : Int) = true → val (EEs es) d = V q → (V q).c < INF →
    ∃ d', mapD (backL es.length (fI N V es r) (fI N V es r).length) d = some d' ∧ validD (EEs (fE N V es r)) d' (q : Int) = true := by
  induction d using DT.ind with
  | h e k ih =>
    intro q hr hv hval hf
    obtain ⟨E, e1, hq, e3, hev, hk⟩ := least_tight hes hS hs hv hval hf
    obtain ⟨j, x, rfl, hx, rfl⟩ := edge_inv e1
    have hxh : x.h.toNat = q := hq
    have ht : tgt V x = true := by
      unfold tgt
      rw [hxh, hev, decide_eq_true hf]; simp
    obtain ⟨i, hi, hix⟩ := fP_at (N := N) (r := r) hx ht (by rw [hxh]; exact hr)
    have hjl := (List.getElem?_eq_some_iff.1 hx).1
    have hlen : k.length = x.t.length := by rw [← e3]; unfold toEE; simp
    have hat := backL_at (n := es.length) (f := fI N V es r) fI_inj (fun k hk => by
      obtain ⟨i, hi⟩ := List.mem_iff_getElem?.1 hk
      obtain ⟨x, _, h2, _⟩ := fI_mem hi
      exact (List.getElem?_eq_some_iff.1 h2).1) (fI N V es r).length i j (Nat.le_refl _) (List.getElem?_eq_some_iff.1 hi).1 hi
    generalize hl : backL es.length (fI N V es r) (fI N V es r).length = l at *
    have hll : l.length = es.length := by rw [← hl]; exact backL_len _ _ _
    obtain ⟨ks, hkl, hks⟩ := list_choice (P := fun i d d' => ∀ t, (toEE x).t[i]? = some t → mapD l d = some d' ∧ validD (EEs (fE N V es r)) d' (t : Int) = true) k (fun i d hd => by
      obtain ⟨t, htt⟩ := get_lt rfl (show i < (toEE x).t.length by have := (List.getElem?_eq_some_iff.1 hd).1; omega)
      obtain ⟨p1, p2, p3⟩ := hk i d t hd htt
      have hrt : rchB N V es r t = true := by
        have h9 := htt
        unfold toEE at h9
        simp only [List.getElem?_map] at h9
        obtain ⟨t', ht', rfl⟩ := Option.map_eq_some_iff.1 h9
        exact rchB_step (List.mem_of_getElem? hx) ht (by rw [hxh]; exact hr) (List.mem_of_getElem? ht')
      obtain ⟨d', q1, q2⟩ := ih d (List.mem_of_getElem? hd) t hrt p1 p2 p3
      exact ⟨d', fun t' ht' => by rw [htt] at ht'; obtain rfl := Option.some.inj ht'; exact ⟨q1, q2⟩⟩)
    refine ⟨.node (i : Int) ks, ?_, ?_⟩
    · rw [mapD, if_pos ⟨by omega, by rw [hll]; omega⟩, mapDs_some hkl (fun i d hd => by
        obtain ⟨t, htt⟩ := get_lt rfl (show i < (toEE x).t.length by have := (List.getElem?_eq_some_iff.1 hd).1; omega)
        obtain ⟨b, hb, hP⟩ := hks i d hd
        exact ⟨b, hb, (hP t htt).1⟩)]
      rw [Option.map_some, Int.toNat_natCast, List.getD_eq_getElem?_getD, hat]
      rfl
    · refine (validD_iff _ _ _ _).2 ⟨toEE x, edge_at hix, by rw [hq], by rw [e3, hkl], fun i d t hd htt => ?_⟩
      obtain ⟨d0, hd0⟩ := get_lt rfl (show i < k.length by have := (List.getElem?_eq_some_iff.1 hd).1; omega)
      obtain ⟨b, hb, hP⟩ := hks i d0 hd0
      rw [hd] at hb
      obtain rfl := Option.some.inj hb
      exact (hP t htt).2
theorem mapD_size (l : List Int) (d : DT) : ∀ d', mapD l d = some d' → sizD d' = sizD d := by
  induction d using DT.ind with
  | h e k ih =>
    intro d' h
    have hk : ∀ (k k' : List DT), (∀ d ∈ k, ∀ d', mapD l d = some d' → sizD d' = sizD d) → mapDs l k = some k' → sizDs k' = sizDs k := by
      intro k
      induction k with
      | nil => intro k' _ h; rw [mapDs] at h; obtain rfl := Option.some.inj h; rfl
      | cons a k ihk =>
        intro k' hh h
        rw [mapDs] at h
        cases ha : mapD l a with
        | none => rw [ha] at h; cases h
        | some a' =>
          rw [ha] at h
          obtain ⟨k2, hk2, rfl⟩ := Option.map_eq_some_iff.1 h
          rw [sizDs, sizDs, hh a (by simp) a' ha, ihk k2 (fun d hd => hh d (by simp [hd])) hk2]
    rw [mapD] at h
    split at h
    · obtain ⟨k', hk', rfl⟩ := Option.map_eq_some_iff.1 h
      rw [sizD, sizD, hk k k' ih hk']
    · cases h
theorem mulF_one {a b : Int} (ha : 1 ≤ a) (hb : 1 ≤ b) : 1 ≤ mulF a b := by
  unfold mulF
  split
  · have := Int.mul_le_mul_of_nonneg_right ha (show (0 : Int) ≤ b by omega)
    omega
  · decide
theorem cntE_pos {O : Nat → Int} {e : EI} (h : ∀ t ∈ e.t, 1 ≤ O t.toNat) : 1 ≤ cntE O e := by
  unfold cntE
  have : ∀ (l : List Nat) (a : Int), (∀ t ∈ l, 1 ≤ O t) → 1 ≤ a → 1 ≤ l.foldl (fun a t => mulF a (O t)) a := by
    intro l
    induction l with
    | nil => exact fun _ _ h => h
    | cons t l ih => exact fun a h h1 => ih _ (fun u hu => h u (by simp [hu])) (mulF_one h1 (h t (by simp)))
  exact this _ 1 (fun t ht => by obtain ⟨u, hu, rfl⟩ := List.mem_map.1 ht; exact h u hu) (by decide)
theorem sum_pos {O : Nat → Int} (hO : ∀ v, 0 ≤ O v ∧ O v ≤ 1099511627776) : ∀ (l : List EI) (a : Int), 0 ≤ a → (1 ≤ a ∨ ∃ e ∈ l, 1 ≤ cntE O e) → 1 ≤ l.foldl (fun s e => plusF s (cntE O e)) a
  | [], a, h0, h => by
    rcases h with h | ⟨e, he, _⟩
    · exact h
    · simp at he
  | x :: l, a, h0, h => by
    rw [List.foldl_cons]
    have hb := cntE_bd hO x
    refine sum_pos hO l _ (plusF_bd h0 hb.1).1 ?_
    have hp : a ≤ plusF a (cntE O x) ∨ 1 ≤ plusF a (cntE O x) := by unfold plusF; split <;> omega
    rcases h with h | ⟨e, he, h1⟩
    · left; unfold plusF; split <;> omega
    · rcases List.mem_cons.1 he with rfl | he
      · left; unfold plusF; split <;> omega
      · exact .inr ⟨e, he, h1⟩
theorem cnt_pos {V : Nat → VV} {es : List EI} (hes : ∀ e ∈ EEs es, PK.okE e) (hS : Sol (EEs es) V) (hs : ∀ v, (V v).s < INF) (d : DT) : ∀ q : Nat, validD (EEs es) d (q : Int) = true → val (EEs es) d = V q → (V q).c < INF → 1 ≤ cnt V es q := by
  induction d using DT.ind with
  | h e k ih =>
    intro q hv hval hf
    obtain ⟨E, e1, hq, e3, hev, hk⟩ := least_tight hes hS hs hv hval hf
    obtain ⟨j, x, rfl, hx, rfl⟩ := edge_inv e1
    have hxh : x.h.toNat = q := hq
    have ht : tgt V x = true := by
      unfold tgt
      rw [hxh, hev, decide_eq_true hf]; simp
    rw [cnt_eq hS.ok hs q]
    unfold cntN
    refine sum_pos (cnt_bd V es) _ 0 (by decide) (.inr ⟨x, List.mem_filter.2 ⟨List.mem_of_getElem? hx, by rw [hxh, ht]; simp⟩, cntE_pos (fun t hm => ?_)⟩)
    obtain ⟨i, hi⟩ := List.mem_iff_getElem?.1 hm
    have hit : (toEE x).t[i]? = some t.toNat := by unfold toEE; simp only; rw [List.getElem?_map, hi]; rfl
    obtain ⟨d, hd⟩ := get_lt rfl (show i < k.length by have := (List.getElem?_eq_some_iff.1 hit).1; omega)
    obtain ⟨p1, p2, p3⟩ := hk i d t.toNat hd hit
    exact ih d (List.mem_of_getElem? hd) t.toNat p1 p2 p3
end Go.Proofs.Ytoiffhoiklafhaa
