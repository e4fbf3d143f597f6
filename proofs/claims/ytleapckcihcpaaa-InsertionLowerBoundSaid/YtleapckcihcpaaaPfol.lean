/-
  The derivation by the chosen hyperedges: its value, its validity, and that none is less.
-/
import Derived.Test.YtleapckcihcpaaaPder
import Derived.Test.YtleapckcihcpaaaPref
namespace Go.Proofs.PK
/-! ### sizes below a bound -/
theorem fold_size : ∀ (l : List VV) (p : Int × Int), (∀ v ∈ l, okV v) → 0 ≤ p.1 → p.1 ≤ INF → 1 ≤ p.2 → p.2 ≤ INF → (l.foldl combG p).2 < INF → ∀ v ∈ l, v.s + p.2 ≤ (l.foldl combG p).2
  | [], _, _, _, _, _, _, _, v, h => by simp at h
  | x :: l, p, hl, h1, h2, h3, h4, hlt, v, h => by
    rw [List.foldl_cons] at hlt ⊢
    obtain ⟨k1, k2, k3, k4, _⟩ := hl x (by simp)
    have hi : (1 : Int) ≤ INF := by unfold INF; decide
    have hb1 : 0 ≤ (combG p x).1 := by unfold combG; simp only; omega
    have hb2 : (combG p x).1 ≤ INF := by unfold combG; simp only; omega
    have hb3 : 1 ≤ (combG p x).2 := by unfold combG; simp only; omega
    have hb4 : (combG p x).2 ≤ INF := by unfold combG; simp only; omega
    have hbd := fold_bd l (combG p x) (fun y hy => hl y (by simp [hy])) hb1 hb2 hb3 hb4
    have e2 : (combG p x).2 = p.2 + x.s := by
      have : (combG p x).2 < INF := by omega
      unfold combG at this ⊢; simp only at this ⊢; omega
    rcases List.mem_cons.1 h with rfl | h
    · omega
    · have := fold_size l _ (fun y hy => hl y (by simp [hy])) hb1 hb2 hb3 hb4 hlt v h
      omega
theorem comb_size {cost : Int} {l : List VV} (hc : 0 ≤ cost ∧ cost ≤ INF) (hl : ∀ v ∈ l, okV v) (hf : (comb cost l).c < INF) (hs : (comb cost l).s < INF) {v : VV} (hv : v ∈ l) : v.c < INF ∧ v.s < (comb cost l).s := by
  have h1 := comb_sup hc hl hv
  have h2 : v.c < INF := by unfold leV at h1; omega
  refine ⟨h2, ?_⟩
  unfold comb at hf hs ⊢
  split at hf
  · unfold top at hf; simp at hf
  · rename_i e
    rw [if_neg e] at hs ⊢
    simp only at hs ⊢
    have := fold_size l (cost, 1) hl hc.1 hc.2 (by simp) (show (1 : Int) ≤ INF by unfold INF; decide) hs v hv
    simp only at this
    omega
theorem comb_fin {cost : Int} {l : List VV} (hc : 0 ≤ cost ∧ cost ≤ INF) (hl : ∀ v ∈ l, okV v) (hf : (comb cost l).c < INF) {v : VV} (hv : v ∈ l) : v.c < INF := by
  have h1 := comb_sup hc hl hv
  unfold leV at h1; omega
/-! ### the chosen hyperedge of a node of finite value -/
section
variable {es : List EE}
theorem edge_mem {e : Int} {E : EE} (h : edge es e = some E) : E ∈ es := by
  unfold edge at h
  split at h
  · exact List.mem_of_getElem? h
  · cases h
theorem val_okP (hes : ∀ e ∈ es, okE e) (d : DT) : okV (val es d) := by
  induction d using DT.ind with
  | h e k ih =>
    rw [val]
    cases h : edge es e with
    | none => exact okV_top
    | some E =>
      refine comb_ok (hes E (edge_mem h)) (fun v hv => ?_)
      rw [valL_map] at hv
      obtain ⟨d, hd, rfl⟩ := List.mem_map.1 hv
      exact ih d hd
theorem att_iff {V : Nat → VV} {i : Nat} {e : EE} : att V i e = true ↔ e.h = i ∧ (V i).c < INF ∧ ev V e = V i := by
  unfold att
  rw [Bool.and_eq_true, Bool.and_eq_true, decide_eq_true_eq, decide_eq_true_eq, decide_eq_true_eq]
  exact ⟨fun ⟨⟨a, b⟩, c⟩ => ⟨a, b, c⟩, fun ⟨a, b, c⟩ => ⟨⟨a, b⟩, c⟩⟩
theorem chosen_fin {V : Nat → VV} (hes : ∀ e ∈ es, okE e) (hS : Sol es V) {v : Nat} (hv : (V v).c < INF) : ∃ (j : Nat) (E : EE), chL V es 0 v = j ∧ es[j]? = some E ∧ E.h = v ∧ ev V E = V v ∧ ∀ (m : Nat) (f : EE), m < j → es[m]? = some f → ¬ (f.h = v ∧ ev V f = V v) := by
  by_cases h0 : 0 ≤ chL V es 0 v
  · obtain ⟨j, e, h1, h2, h3, h4⟩ := chL_some (by omega) h0
    obtain ⟨a1, a2, a3⟩ := att_iff.1 h3
    refine ⟨j, e, by omega, h2, a1, a3, fun m f hm hf hh => ?_⟩
    have := h4 m f hm hf
    rw [att_iff.2 ⟨hh.1, hv, hh.2⟩] at this
    cases this
  · exfalso
    rcases hS.attained hes v with h | ⟨e, he, h1, h2⟩
    · rw [h] at hv; unfold top at hv; simp at hv
    · have := chL_none (V := V) (l := es) (k := 0) (i := v) (by omega) (by omega) e he
      rw [att_iff.2 ⟨h1, hv, h2⟩] at this
      cases this
theorem tails_fin {V : Nat → VV} (hes : ∀ e ∈ es, okE e) (hS : Sol es V) {v : Nat} {E : EE} (hE : E ∈ es) (hv : (V v).c < INF) (he : ev V E = V v) {t : Nat} (ht : t ∈ E.t) : (V t).c < INF := by
  rw [← he] at hv
  exact comb_fin (hes E hE) (fun x hx => by obtain ⟨u, _, rfl⟩ := List.mem_map.1 hx; exact hS.ok u) hv (List.mem_map.2 ⟨t, ht, rfl⟩)
theorem tails_size {V : Nat → VV} (hes : ∀ e ∈ es, okE e) (hS : Sol es V) {v : Nat} {E : EE} (hE : E ∈ es) (hv : (V v).c < INF) (hs : (V v).s < INF) (he : ev V E = V v) {t : Nat} (ht : t ∈ E.t) : (V t).s < (V v).s := by
  rw [← he] at hv hs ⊢
  exact (comb_size (hes E hE) (fun x hx => by obtain ⟨u, _, rfl⟩ := List.mem_map.1 hx; exact hS.ok u) hv hs (List.mem_map.2 ⟨t, ht, rfl⟩)).2
/-! ### the derivation by the chosen hyperedges -/
inductive Fol (V : Nat → VV) (es : List EE) : Nat → DT → Prop
  | mk {v : Nat} {E : EE} {k : List DT} (he : edge es (chL V es 0 v) = some E) (hl : k.length = E.t.length) (hk : ∀ (i : Nat) d t, k[i]? = some d → E.t[i]? = some t → Fol V es t d) : Fol V es v (.node (chL V es 0 v) k)
theorem Fol.unique {V : Nat → VV} {d : DT} : ∀ {v f}, Fol V es v d → Fol V es v f → d = f := by
  induction d using DT.ind with
  | h e k ih =>
    intro v f h1 h2
    cases h1 with
    | mk he hl hk =>
      cases h2 with
      | mk he2 hl2 hk2 =>
        rename_i E F l
        rw [he] at he2
        obtain rfl := Option.some.inj he2
        have : k = l := by
          refine List.ext_getElem? fun i => ?_
          by_cases hi : i < k.length
          · have hx := List.getElem?_eq_getElem hi
            have hy := List.getElem?_eq_getElem (l := l) (i := i) (by omega)
            have ht := List.getElem?_eq_getElem (l := E.t) (i := i) (by omega)
            rw [hx, hy, ih _ (List.mem_of_getElem? hx) (hk i _ _ hx ht) (hk2 i _ _ hy ht)]
          · rw [List.getElem?_eq_none (by omega), List.getElem?_eq_none (by omega)]
        rw [this]
theorem edge_nat {j : Nat} {E : EE} (h : es[j]? = some E) : edge es (j : Int) = some E := by
  unfold edge; rw [if_pos (by omega), Int.toNat_natCast, h]
theorem edge_some {e : Int} {E : EE} (h : edge es e = some E) : ∃ j : Nat, e = j ∧ es[j]? = some E := by
  unfold edge at h
  split at h
  · exact ⟨e.toNat, by omega, h⟩
  · cases h
theorem Fol.good {V : Nat → VV} (hes : ∀ e ∈ es, okE e) (hS : Sol es V) {d : DT} : ∀ {v : Nat}, (V v).c < INF → Fol V es v d → val es d = V v ∧ validD es d (v : Int) = true := by
  induction d using DT.ind with
  | h e k ih =>
    intro v hv h
    cases h with
    | mk he hl hk =>
      rename_i E
      obtain ⟨j, E', h1, h2, h3, h4, _⟩ := chosen_fin hes hS hv
      have hE := edge_nat h2
      rw [h1] at he
      rw [hE] at he
      obtain rfl := Option.some.inj he
      have hm : E' ∈ es := List.mem_of_getElem? h2
      have hkk : ∀ (i : Nat) d t, k[i]? = some d → E'.t[i]? = some t → val es d = V t ∧ validD es d (t : Int) = true := fun i d t hd ht =>
        ih d (List.mem_of_getElem? hd) (tails_fin hes hS hm hv h4 (List.mem_of_getElem? ht)) (hk i d t hd ht)
      rw [h1]
      constructor
      · rw [val, hE]
        simp only
        rw [valL_map, ← h4]
        unfold ev
        have : k.map (val es) = E'.t.map V := by
          refine List.ext_getElem? fun i => ?_
          rw [List.getElem?_map, List.getElem?_map]
          by_cases hi : i < k.length
          · have hx := List.getElem?_eq_getElem hi
            have ht := List.getElem?_eq_getElem (l := E'.t) (i := i) (by omega)
            rw [hx, ht, Option.map_some, Option.map_some, (hkk i _ _ hx ht).1]
          · rw [List.getElem?_eq_none (by omega), List.getElem?_eq_none (by omega)]; rfl
        rw [this]
      · exact (validD_iff es _ _ _).2 ⟨E', hE, by omega, hl.symm, fun i d t hd ht => (hkk i d t hd ht).2⟩
/-! ### none is less -/
theorem le_val {V : Nat → VV} (hes : ∀ e ∈ es, okE e) (hS : Sol es V) {d : DT} : ∀ {v : Nat}, validD es d (v : Int) = true → leV (V v) (val es d) := by
  induction d using DT.ind with
  | h e k ih =>
    intro v h
    obtain ⟨E, e1, e2, e3, e4⟩ := (validD_iff es _ _ _).1 h
    have hm := edge_mem e1
    have h1 := hS.closed E hm
    have e5 : E.h = v := by omega
    rw [e5] at h1
    refine leV_trans h1 ?_
    rw [val, e1]
    simp only
    rw [valL_map]
    refine comb_mono (hes E hm) (fun x hx => by obtain ⟨u, _, rfl⟩ := List.mem_map.1 hx; exact hS.ok u) (fun x hx => by obtain ⟨u, _, rfl⟩ := List.mem_map.1 hx; exact val_okP hes u) (by simp [e3]) (fun i a b ha hb => ?_)
    rw [List.getElem?_map] at ha hb
    obtain ⟨t, ht, rfl⟩ := Option.map_eq_some_iff.1 ha
    obtain ⟨d, hd, rfl⟩ := Option.map_eq_some_iff.1 hb
    exact ih d (List.mem_of_getElem? hd) (e4 i d t hd ht)
theorem ev_le_val {V : Nat → VV} (hes : ∀ e ∈ es, okE e) (hS : Sol es V) {e : Int} {E : EE} {k : List DT} (h : edge es e = some E) (hl : E.t.length = k.length) (hk : ∀ (i : Nat) d t, k[i]? = some d → E.t[i]? = some t → validD es d (t : Int) = true) : leV (ev V E) (val es (.node e k)) := by
  rw [val, h]
  simp only
  rw [valL_map]
  refine comb_mono (hes E (edge_mem h)) (fun x hx => by obtain ⟨u, _, rfl⟩ := List.mem_map.1 hx; exact hS.ok u) (fun x hx => by obtain ⟨u, _, rfl⟩ := List.mem_map.1 hx; exact val_okP hes u) (by simp [hl]) (fun i a b ha hb => ?_)
  rw [List.getElem?_map] at ha hb
  obtain ⟨t, ht, rfl⟩ := Option.map_eq_some_iff.1 ha
  obtain ⟨d, hd, rfl⟩ := Option.map_eq_some_iff.1 hb
  exact le_val hes hS (hk i d t hd ht)
theorem kid_fin (hes : ∀ e ∈ es, okE e) {e : Int} {k : List DT} (hf : (val es (.node e k)).c < INF) {d : DT} (hd : d ∈ k) : (val es d).c < INF := by
  rw [val] at hf
  cases h : edge es e with
  | none => rw [h] at hf; unfold top at hf; simp at hf
  | some E =>
    rw [h] at hf
    simp only at hf
    rw [valL_map] at hf
    exact comb_fin (hes E (edge_mem h)) (fun x hx => by obtain ⟨u, _, rfl⟩ := List.mem_map.1 hx; exact val_okP hes u) hf (List.mem_map.2 ⟨d, hd, rfl⟩)
theorem cmpL_le0 : ∀ (k l : List DT), k.length = l.length → (∀ (i : Nat) d f, k[i]? = some d → l[i]? = some f → cmpD es d f ≤ 0) → cmpL es k l ≤ 0
  | [], [], _, _ => by rw [cmpL]; omega
  | [], _ :: _, h, _ => by simp at h
  | _ :: _, [], h, _ => by simp at h
  | d :: k, f :: l, h, hh => by
    rw [cmpL]
    have h0 := hh 0 d f rfl rfl
    split
    · exact h0
    · exact cmpL_le0 k l (by simpa using h) (fun i x y hx hy => hh (i + 1) x y (by simpa using hx) (by simpa using hy))
theorem Fol.least {V : Nat → VV} (hes : ∀ e ∈ es, okE e) (hS : Sol es V) {a : DT} : ∀ {v : Nat} {d : DT}, validD es a (v : Int) = true → (val es a).c < INF → Fol V es v d → cmpD es d a ≤ 0 := by
  induction a using DT.ind with
  | h e k ih =>
    intro v d hva hf hd
    have hle := le_val hes hS hva
    have hv : (V v).c < INF := by unfold leV at hle; omega
    have hg := hd.good hes hS hv
    obtain ⟨E, e1, e2, e3, e4⟩ := (validD_iff es _ _ _).1 hva
    have hE := edge_mem e1
    cases hd with
    | mk he hl hk =>
      rename_i F l
      rw [cmpD, hg.1]
      by_cases hq : V v = val es (.node e k)
      · rw [if_neg (by rw [cmpV_zero.2 hq]; simp)]
        obtain ⟨j, E', c1, c2, c3, c4, c5⟩ := chosen_fin hes hS hv
        obtain ⟨m, rfl, hm⟩ := edge_some e1
        have hev : ev V E = V v := by
          refine leV_antisymm (hq ▸ ev_le_val hes hS e1 e3 e4) ?_
          have := hS.closed E hE
          rwa [show E.h = v by omega] at this
        have hjm : j ≤ m := by
          rcases Nat.lt_or_ge m j with h9 | h9
          · exact absurd ⟨by omega, hev⟩ (c5 m E h9 hm)
          · exact h9
        by_cases hjm2 : j = m
        · subst hjm2
          rw [hm] at c2
          obtain rfl := Option.some.inj c2
          rw [if_neg (by rw [cmpI_zero.2 c1]; simp)]
          rw [c1, e1] at he
          obtain rfl := Option.some.inj he
          refine cmpL_le0 l k (by omega) (fun i x y hx hy => ?_)
          have ht := List.getElem?_eq_getElem (l := E.t) (i := i) (by
            have := (List.getElem?_eq_some_iff.1 hy).1
            omega)
          exact ih y (List.mem_of_getElem? hy) (e4 i y _ hy ht) (kid_fin hes hf (List.mem_of_getElem? hy)) (hk i x _ hx ht)
        · rw [if_pos (by
            intro h9
            have := cmpI_zero.1 h9
            omega)]
          exact cmpI_le.2 (by omega)
      · rw [if_pos (fun h9 => hq (cmpV_zero.1 h9))]
        exact cmpV_le.2 hle
/-! ### a smaller first kid -/
theorem mono_first (hes : ∀ e ∈ es, okE e) {e : Int} {x d : DT} {k : List DT} {r : Int} (hva : validD es (.node e (x :: k)) r = true) (hxd : cmpD es d x ≤ 0) : cmpD es (.node e (d :: k)) (.node e (x :: k)) = if eqD d x = true then 0 else -1 := by
  by_cases h : d = x
  · subst h
    rw [if_pos ((eqD_iff d d).2 rfl)]; exact cmpD_refl es _
  · rw [if_neg (fun h9 => h ((eqD_iff d x).1 h9))]
    have h0 : cmpD es d x ≠ 0 := fun h9 => h (cmpD_zero es d x h9)
    have hb := cmpD_bd es d x
    obtain ⟨E, e1, e2, e3, e4⟩ := (validD_iff es _ _ _).1 hva
    have hle : leV (val es (.node e (d :: k))) (val es (.node e (x :: k))) := by
      rw [val, val, e1]
      simp only
      rw [valL_map, valL_map]
      refine comb_mono (hes E (edge_mem e1)) (fun y hy => by obtain ⟨u, _, rfl⟩ := List.mem_map.1 hy; exact val_okP hes u) (fun y hy => by obtain ⟨u, _, rfl⟩ := List.mem_map.1 hy; exact val_okP hes u) (by simp) (fun i a b ha hb2 => ?_)
      cases i with
      | zero =>
        simp at ha hb2
        subst ha hb2
        obtain ⟨f, l⟩ := d
        obtain ⟨g, m⟩ := x
        rw [cmpD] at hxd
        by_cases e5 : cmpV (val es (.node f l)) (val es (.node g m)) = 0
        · exact cmpV_le.1 (by omega)
        · rw [if_pos e5] at hxd; exact cmpV_le.1 hxd
      | succ i =>
        simp only [List.map_cons, List.getElem?_cons_succ] at ha hb2
        rw [ha] at hb2
        obtain rfl := Option.some.inj hb2
        exact leV_refl _
    rw [cmpD]
    have hV := cmpV_le.2 hle
    by_cases e5 : cmpV (val es (.node e (d :: k))) (val es (.node e (x :: k))) = 0
    · rw [if_neg (by omega), if_neg (by rw [cmpI_zero.2 rfl]; simp), cmpL, if_pos h0]
      omega
    · rw [if_pos e5]
      have := cmpV_bd (val es (.node e (d :: k))) (val es (.node e (x :: k)))
      omega
theorem valid_first {e : Int} {x d : DT} {k : List DT} {r : Int} {E : EE} {t : Nat} (he : edge es e = some E) (ht : E.t[0]? = some t) (hva : validD es (.node e (x :: k)) r = true) (hd : validD es d (t : Int) = true) : validD es (.node e (d :: k)) r = true := by
  obtain ⟨E', e1, e2, e3, e4⟩ := (validD_iff es _ _ _).1 hva
  rw [he] at e1
  obtain rfl := Option.some.inj e1
  refine (validD_iff es _ _ _).2 ⟨E, he, e2, by simpa using e3, fun i y u hy hu => ?_⟩
  cases i with
  | zero =>
    simp at hy
    subst hy
    rw [ht] at hu
    obtain rfl := Option.some.inj hu
    exact hd
  | succ i => exact e4 (i + 1) y u (by simpa using hy) hu
/-- the values of the nodes beyond the last are top -/
theorem Sol.beyond {V : Nat → VV} (hes : ∀ e ∈ es, okE e) (hS : Sol es V) {N : Nat} (hh : ∀ e ∈ es, e.h < N) {i : Nat} (hi : N ≤ i) : V i = top := by
  rcases hS.attained hes i with h | ⟨e, he, h1, _⟩
  · exact h
  · have := hh e he; omega
end
end Go.Proofs.PK
