/-
  Plain laws of columns: what Of returns is valid; confusions lower.
-/
import Derived.Test.YtagmpbgidooibaaC13
import Derived.Test.YtagmpbgidooibaaC17
namespace Go.Proofs.Ytagmpbgidooibaa
theorem stF_ok {T : Nat} {kd : Int} {f : Nat → Int} {p : Int × Int} (hf : ∀ t, t < T → okP kd t (f t) = true) (h0 : 0 ≤ p.1) (h1 : ¬ p.1 = kd) (h2 : lg p.2 = true) : ∀ t, t < T → okP kd t (stF f p t) = true := by
  intro t ht
  unfold stF
  split
  · unfold upd
    split
    · rename_i h3 h4
      unfold okP
      rw [if_neg (by omega), h2]
      simp
    · exact hf t ht
  · exact hf t ht
theorem fold_ok {T : Nat} {kd : Int} : ∀ (xs : List (Int × Int)) (f : Nat → Int), (∀ t, t < T → okP kd t (f t) = true) → (∀ p ∈ xs, 0 ≤ p.1 ∧ ¬ p.1 = kd ∧ lg p.2 = true) → ∀ t, t < T → okP kd t (xs.foldl stF f t) = true := by
  intro xs
  induction xs with
  | nil => intro f hf _; exact hf
  | cons p xs ih =>
    intro f hf hx
    rw [List.foldl_cons]
    obtain ⟨h0, h1, h2⟩ := hx p (by simp)
    exact ih (stF f p) (stF_ok hf h0 h1 h2) (fun q hq => hx q (by simp [hq]))
theorem lg_bw {x : Int} (h : bw 1 x = true) : lg x = true := by
  rw [bw_iff] at h
  rw [lg_iff]
  omega
theorem r0_ok {ins del : List Int} {rep : List RR} {s u kd : Int} (h : pricesB ins del rep s u = true) (hk : -1 ≤ kd) (hk2 : kd < ins.length) : ∀ t, t < ins.length → okP kd t (r0 kd rep t) = true := by
  intro t ht
  unfold r0
  by_cases h0 : 0 ≤ kd
  · rw [if_pos h0]
    obtain ⟨a, rfl⟩ : ∃ q : Nat, kd = q := Int.eq_ofNat_of_zero_le h0
    have ha : a < ins.length := by omega
    simp only [pricesB, Bool.and_eq_true, decide_eq_true_eq] at h
    have h3 := allB_get h.2 a ha
    simp only [prA, rowB, Bool.and_eq_true, decide_eq_true_eq] at h3
    have h4 := allB_get h3.2.2 t (by rw [h3.2.1]; exact ht)
    rw [Int.toNat_natCast]
    unfold okQ at h4
    unfold okP
    by_cases e : (t : Int) = (a : Int)
    · rw [if_pos e]
      rw [if_pos e.symm] at h4
      exact h4
    · rw [if_neg e]
      rw [if_neg (fun e2 => e e2.symm)] at h4
      rw [Bool.or_eq_true] at h4 ⊢
      exact h4.imp id lg_bw
  · rw [if_neg h0]
    unfold okP
    rw [if_neg (by omega)]
    simp
theorem okT_all {T kd : Int} {xs : List (Int × Int)} (h : okT T kd xs = true) : ∀ p ∈ xs, 0 ≤ p.1 ∧ ¬ p.1 = kd ∧ lg p.2 = true := by
  simp only [okT, Bool.and_eq_true, decide_eq_true_eq] at h
  intro p hp
  have h1 := List.all_eq_true.1 h.2 p hp
  simp only [okX, Bool.and_eq_true, decide_eq_true_eq, Bool.not_eq_true', decide_eq_false_iff_not] at h1
  exact ⟨h1.1.1.1, h1.1.2, h1.2⟩
theorem delF_ok {ins del : List Int} {rep : List RR} {s u kd : Int} (h : pricesB ins del rep s u = true) (hk2 : kd < ins.length) : lg (delF kd del u) = true := by
  simp only [pricesB, Bool.and_eq_true, decide_eq_true_eq] at h
  unfold delF
  by_cases h0 : 0 ≤ kd
  · rw [if_pos h0]
    obtain ⟨a, rfl⟩ : ∃ q : Nat, kd = q := Int.eq_ofNat_of_zero_le h0
    have h3 := allB_get h.2 a (by omega)
    simp only [prA, Bool.and_eq_true] at h3
    rw [Int.toNat_natCast]
    exact lg_bw h3.1.2
  · rw [if_neg h0]
    exact lg_bw h.1.2
theorem ofE_zero {ks : List Int} {cs : List XX} {ins del : List Int} {rep : List RR} {s u : Int} (h : ofE ks cs ins del rep s u = 0) : pricesB ins del rep s u = true ∧ (cs.length = 0 ∨ cs.length = ks.length) ∧ (∀ i, i < ks.length → okT ins.length (gi ks i) (cf cs i) = true) ∧ ks.length ≤ 60 := by
  unfold ofE at h
  split at h
  · rename_i h1
    simp only [Bool.and_eq_true, lenB, Bool.or_eq_true, decide_eq_true_eq] at h1
    refine ⟨h1.1.1, h1.1.2, fun i hi => allB_get h1.2 i hi, ?_⟩
    split at h
    · omega
    · omega
  · omega
theorem gi_map_range (f : Nat → Int) (T t : Nat) (ht : t < T) : gi ((List.range T).map f) t = f t := by
  refine gi_get ?_
  rw [List.getElem?_map, List.getElem?_range ht]
  rfl
theorem of_valid {ks : List Int} {cs : List XX} {ins del : List Int} {rep : List RR} {s u : Int} {cols : List CC} (h : ofE ks cs ins del rep s u = 0) (hk : cols.map key = ofK ks cs del rep u ins.length) : validI ins.length cols ins s = true := by
  obtain ⟨hp, _, hok, h60⟩ := ofE_zero h
  have hlen : cols.length = ks.length := by
    have := congrArg List.length hk
    simpa [ofK] using this
  rw [validI_iff]
  refine ⟨⟨⟨⟨⟨by omega, by omega⟩, rfl⟩, ?_⟩, ?_⟩, ?_⟩
  · simp only [pricesB, Bool.and_eq_true, bw_iff] at hp
    have := hp.1.1.2
    by_cases e : s = 0
    · exact .inl e
    · exact .inr ((lg_iff s).2 (by omega))
  · rw [List.all_eq_true]
    intro x hx
    obtain ⟨a, ha, rfl⟩ := List.getElem_of_mem hx
    simp only [pricesB, Bool.and_eq_true] at hp
    have h3 := allB_get hp.2 a ha
    simp only [prA, Bool.and_eq_true] at h3
    have h4 := lg_bw h3.1.1
    rwa [gi_get (List.getElem?_eq_getElem ha)] at h4
  · rw [List.all_eq_true]
    intro c hc
    obtain ⟨i, hi, rfl⟩ := List.getElem_of_mem hc
    have hik : i < ks.length := by omega
    have h1 : (cols.map key)[i]? = some (key cols[i]) := by rw [List.getElem?_map, List.getElem?_eq_getElem hi]; rfl
    rw [hk, ofK, List.getElem?_map, List.getElem?_range hik] at h1
    have h2 := Option.some.inj h1
    simp only [keyT, key, Prod.mk.injEq] at h2
    obtain ⟨e1, e2, e3⟩ := h2
    have hokt := hok i hik
    obtain ⟨⟨hk1, hk2⟩, _⟩ := okT_xs hokt
    have hr : (cols[i].r).length = ins.length := by rw [← e2]; simp
    simp only [colB, Bool.and_eq_true, decide_eq_true_eq]
    refine ⟨⟨⟨⟨by rw [← e1]; exact hk1, by rw [← e1]; exact hk2⟩, by omega⟩, ?_⟩, ?_⟩
    · rw [← e3]
      unfold okD
      rw [delF_ok hp hk2]
      rfl
    · refine allB_true fun t ht => ?_
      rw [← e1, ← e2, gi_map_range _ _ _ (by omega)]
      exact fold_ok _ _ (r0_ok hp hk1 hk2) (okT_all hokt) t (by omega)
/-- a fold lowers -/
theorem stF_lower (f : Nat → Int) (p : Int × Int) (t : Nat) (h1 : 1 ≤ p.2) (h0 : 0 ≤ f t) : 0 ≤ stF f p t ∧ stF f p t ≤ f t := by
  unfold stF
  split
  · rename_i h
    unfold upd
    split
    · rename_i e
      subst e
      omega
    · exact ⟨h0, Int.le_refl _⟩
  · exact ⟨h0, Int.le_refl _⟩
theorem fold_lower : ∀ (xs : List (Int × Int)) (f : Nat → Int) (t : Nat), (∀ p ∈ xs, 1 ≤ p.2) → 0 ≤ f t → 0 ≤ xs.foldl stF f t ∧ xs.foldl stF f t ≤ f t := by
  intro xs
  induction xs with
  | nil => intro f t _ h0; exact ⟨h0, Int.le_refl _⟩
  | cons p xs ih =>
    intro f t hx h0
    rw [List.foldl_cons]
    have h1 := stF_lower f p t (hx p (by simp)) h0
    have h2 := ih (stF f p) t (fun q hq => hx q (by simp [hq])) h1.1
    exact ⟨h2.1, Int.le_trans h2.2 h1.2⟩
end Go.Proofs.Ytagmpbgidooibaa
