/-
  The forest of a forest, as plain mathematics.
-/
import Derived.Test.YtoiffhoiklafhaaF15
namespace Go.Proofs.Ytoiffhoiklafhaa
open PK
section
variable {N : Nat} {V W : Nat → VV} {es : List EI} {r : Int} (hes : ∀ e ∈ EEs es, PK.okE e) (hV : Sol (EEs es) V) (hs : ∀ v, (V v).s < INF) (hW : Sol (EEs (fE N V es r)) W) (hnn : ∀ e ∈ es, 0 ≤ e.h ∧ ∀ t ∈ e.t, 0 ≤ t)
include hes hV hs hW hnn
theorem ff_eq {v : Nat} (h : rchB N V es r v = true) : W v = V v := sol_forest hes hV hs hW hnn _ v (Nat.lt_succ_self _) h
omit hV hs hW hnn in
theorem ff_okE : ∀ e ∈ EEs (fE N V es r), PK.okE e := fun e he => by
  obtain ⟨x, hx, rfl⟩ := List.mem_map.1 he
  exact hes _ (List.mem_map.2 ⟨x, (mem_fE.1 hx).1, rfl⟩)
theorem ff_size (v : Nat) : (W v).s < INF := by
  cases hr : rchB N V es r v with
  | true => rw [ff_eq hes hV hs hW hnn hr]; exact hs v
  | false =>
    rcases hW.attained (ff_okE hes) v with h | ⟨e, he, h1, _⟩
    · rw [h]; decide
    · obtain ⟨x, hx, rfl⟩ := List.mem_map.1 he
      have := (mem_fE.1 hx).2.2
      rw [show x.h.toNat = v from h1, hr] at this
      cases this
theorem ff_tgt {x : EI} (hx : x ∈ fE N V es r) : tgt W x = true := by
  obtain ⟨h1, h2, h3⟩ := mem_fE.1 hx
  have hh := ff_eq hes hV hs hW hnn h3
  have hev : ev W (toEE x) = ev V (toEE x) := by
    unfold ev
    congr 1
    refine List.map_congr_left (fun t hm => ?_)
    obtain ⟨y, hy, rfl⟩ := List.mem_map.1 hm
    exact ff_eq hes hV hs hW hnn (rchB_step h1 h2 h3 hy)
  unfold tgt at h2 ⊢
  rw [hh, hev]
  exact h2
theorem ff_rch {v : Nat} (h : rchB N V es r v = true) : rchB N W (fE N V es r) r v = true := by
  obtain ⟨h1, h2, h3⟩ := rchB_iff.1 h
  refine rchB_iff.2 ⟨h1, h2, ?_⟩
  clear h
  induction h3 with
  | root => exact .root
  | step hv he hh ht ih =>
    obtain ⟨m1, m2⟩ := mem_tE.1 he
    have hg := mem_fE.2 ⟨m1, m2, by rw [hh]; exact rchB_iff.2 ⟨h1, h2, hv⟩⟩
    exact .step ih (mem_tE.2 ⟨hg, ff_tgt hes hV hs hW hnn hg⟩) hh ht
theorem ff_fP : fP N W (fE N V es r) r = (fE N V es r).zipIdx := by
  unfold fP tP
  rw [List.filter_filter, List.filter_eq_self]
  intro p hp
  have hx := List.mem_of_getElem? (zip_mem hp)
  rw [ff_tgt hes hV hs hW hnn hx, ff_rch hes hV hs hW hnn (mem_fE.1 hx).2.2]
  rfl
theorem ff_fE : fE N W (fE N V es r) r = fE N V es r := by
  show (fP N W (fE N V es r) r).map Prod.fst = fE N V es r
  rw [ff_fP hes hV hs hW hnn, List.zipIdx_map_fst]
theorem ff_fI : fI N W (fE N V es r) r = List.range (fE N V es r).length := by
  unfold fI
  rw [ff_fP hes hV hs hW hnn, List.zipIdx_map_snd, List.range_eq_range']
theorem ff_cnt {v : Nat} (hv : rchB N V es r v = true) : cnt W (fE N V es r) v = cnt V es v := by
  refine cnt_uniq hV.ok hs (S := fun v => rchB N V es r v = true) (fun e he ht hr t hm => rchB_step he ht hr hm) (fun u hu => ?_) _ v (Nat.lt_succ_self _) hv
  rw [cnt_eq hW.ok (ff_size hes hV hs hW hnn) u]
  have key : ∀ O : Nat → Int, cntN W (fE N V es r) O u = cntN V es O u := by
    intro O
    unfold cntN
    congr 1
    rw [show (fE N V es r).filter (fun e => decide (e.h.toNat = u) && tgt W e) = (fE N V es r).filter (fun e => decide (e.h.toNat = u)) from List.filter_congr (fun e he => by rw [ff_tgt hes hV hs hW hnn he, Bool.and_true])]
    rw [fE_eq, List.filter_filter]
    refine List.filter_congr (fun e _ => ?_)
    by_cases h : e.h.toNat = u
    · simp [h, hu]
    · simp [h]
  rw [← cnt_eq hW.ok (ff_size hes hV hs hW hnn) u]
  exact (cnt_eq hW.ok (ff_size hes hV hs hW hnn) u).trans (key _)
end
theorem small_forest {N : Nat} {V : Nat → VV} {es : List EI} {r : Int} (h : smallB N es = true) : smallB N (fE N V es r) = true := by
  obtain ⟨h1, h2, h3, h4⟩ := smallB_parts h
  simp only [smallB, Bool.and_eq_true, decide_eq_true_eq, List.all_eq_true]
  exact ⟨⟨⟨h1, Nat.le_trans (fE_le N V es r) h2⟩, fun e he => h3 e (mem_fE.1 he).1⟩, forest_valid h4⟩
end Go.Proofs.Ytoiffhoiklafhaa
