/-
  The queue: swap, up, down.
-/
import Derived.Test.YtleapckcihcpaaaK6
namespace Go.Proofs.Ytleapckcihcpaaa
open Go.RowKit Go.Deep PK
attribute [local go_sem] Oper.lit Oper.litS fut_fut fut_drew World.cell?_alloc_some
attribute [local go_sem] World.frozen?_setCell
theorem sq_g {qb mb g m cap : Nat} : SQ qb mb (.slice (some ⟨g, 0, none⟩) m cap) g = true := by simp [SQ, Value.ownBlock]
theorem sq_m {qb mb : Nat} {v : Value} : SQ qb mb v mb = true := by simp [SQ]
theorem sq_q {qb mb : Nat} {v : Value} : SQ qb mb v qb = true := by simp [SQ]
theorem futS_grown {S : Nat → Bool} {w w1 w2 : World} {b : Nat} (h : FutS S w w1) (hg : w1.grownBy w2 (some b)) (hb : S b = true) : FutS S w w2 :=
  h.grown hg (fun k hk => .inl (by cases hk; exact hb))
theorem QS.own' {w w1 w2 : World} {qb mb B : Nat} {v : Value} {H G : Nat → EN} {m nx : Nat} (h : QS w qb mb B v H m nx) (hf : Fut w w1) (hg : w1.grownBy w2 v.ownBlock) (ho : OwnN w2 B v G m) (hh : ∀ i, i < m → 0 ≤ (G i).hd ∧ (G i).hd < nx) : QS w2 qb mb B v G m nx := by
  have hlt : ∀ k, v.ownBlock = some k → B ≤ k := fun k hk => (World.ownsRow.lt h.own k hk).1
  have hne : ∀ b, b < B → some b ≠ v.ownBlock := fun b hb e => by have := hlt b e.symm; omega
  refine ⟨(h.q.fut hf).grown hg (hne _ h.qB), (h.mp.fut hf).of_block (hg.block mb (h.mp.fut hf).lt (hne _ h.mB)), ho, h.qB, h.mB, Nat.le_trans h.sz (Nat.le_trans hf.size hg.size), hh, h.nx1, h.mx⟩
/-- the map was turned -/
theorem QS.mapped {w w2 : World} {qb mb B : Nat} {v : Value} {H : Nat → EN} {m nx : Nat} (h : QS w qb mb B v H m nx) (hg : w.grownBy w2 (some mb)) (hm : MPi w2 mb) : QS w2 qb mb B v H m nx := by
  have hlt : ∀ k, v.ownBlock = some k → B ≤ k := fun k hk => (World.ownsRow.lt h.own k hk).1
  refine ⟨h.q.grown hg (fun e => h.ne (Option.some.inj e)), hm, World.ownsRow.kept h.own hg ?_, h.qB, h.mB, Nat.le_trans h.sz hg.size, h.hd, h.nx1, h.mx⟩
  cases hv : v.ownBlock with
  | none => exact .inl rfl
  | some k =>
    right
    intro e
    have := hlt k hv
    have := h.mB
    have := Option.some.inj e
    omega
set_option maxHeartbeats 6400000 in
set_option maxRecDepth 4000 in
theorem swap_any {w : World} {qb mb B : Nat} {v : Value} {H : Nat → EN} {m nx : Nat} (h : QS w qb mb B v H m nx) (i j : Nat) (hi : i < m) (hj : j < m) :
    Calls Try.prog 52 #[.pointer (some ⟨qb, 0, none⟩), .int .i64 (i : Int), .int .i64 (j : Int)] w fun r w' => r = .returned (.tuple #[]) ∧ QS w' qb mb B v (swp H i j) m nx ∧ FutS (SQ qb mb v) w w' := by
  have HQ := Lib.hid h
  obtain ⟨g, cap, rfl, hBg, hgl, hmc, hcap⟩ := h.own.form (by omega)
  have HBG := Lib.hid hBg
  have hm63 : m ≤ 9223372036854775807 := by have := h.nx1; have := h.mx; omega
  obtain ⟨i0, i1, i2, i3, i4⟩ := h.own.at hi
  obtain ⟨j0, j1, j2, j3, j4⟩ := h.own.at hj
  have x1 := cell_fut (h.q.cell (i := 1) rfl)
  have a0 := cell_fut i0
  have b0 := cell_fut j0
  have e0 := i0
  have f0 : w.frozen? ⟨g, i * 5, none⟩ = false := World.ownsRow.frozenAt h.own _
  have a1 := cell_fut i1
  have b1 := cell_fut j1
  have e1 := i1
  have f1 : w.frozen? ⟨g, i * 5 + 1, none⟩ = false := World.ownsRow.frozenAt h.own _
  have a2 := cell_fut i2
  have b2 := cell_fut j2
  have e2 := i2
  have f2 : w.frozen? ⟨g, i * 5 + 2, none⟩ = false := World.ownsRow.frozenAt h.own _
  have a3 := cell_fut i3
  have b3 := cell_fut j3
  have e3 := i3
  have f3 : w.frozen? ⟨g, i * 5 + 3, none⟩ = false := World.ownsRow.frozenAt h.own _
  have a4 := cell_fut i4
  have b4 := cell_fut j4
  have e4 := i4
  have f4 : w.frozen? ⟨g, i * 5 + 4, none⟩ = false := World.ownsRow.frozenAt h.own _
  have HO1 := Lib.hid (OwnN.set (w := w.drew) h.own i (H j) hi)
  clear h hBg hgl hmc hcap i0 i1 i2 i3 i4 j0 j1 j2 j3 j4
  go_enter Try.func52, Try.ntmps52
  go_wp2_with fail
  refine wp_region_M o_pqueue_Queue_knuth_candidate_swap_0 (by kernel_rfl) (by kernel_rfl) (by intro c a d v w h; cases d <;> exact h) ?_; unfold o_pqueue_Queue_knuth_candidate_swap_0
  iterate 25 (refine wpF_h rfl rfl (fun K hK => ?_); go_simp; refine hK _ _ ?_; clear hK K)
  refine wpF_ol rfl (by kernel_rfl) rfl (fun K hK => ?_)
  go_simp
  refine (show K _ (set5 w.drew g i (H j)) from hK _ _ ?_)
  clear hK K x1 a0 a1 a2 a3 a4 b0 b1 b2 b3 b4 e0 e1 e2 e3 e4 f0 f1 f2 f3 f4
  generalize set5 w.drew g i (H j) = w1 at *
  (refine wpF_h rfl rfl (fun K hK => ?_); go_simp; refine hK _ _ ?_; clear hK K)
  refine wpF_o rfl rfl (fun K hK => ?_)
  obtain ⟨j0, j1, j2, j3, j4⟩ := HO1.out.1.at hj
  have f0 : w1.frozen? ⟨g, j * 5, none⟩ = false := World.ownsRow.frozenAt HO1.out.1 _
  have f1 : w1.frozen? ⟨g, j * 5 + 1, none⟩ = false := World.ownsRow.frozenAt HO1.out.1 _
  have f2 : w1.frozen? ⟨g, j * 5 + 2, none⟩ = false := World.ownsRow.frozenAt HO1.out.1 _
  have f3 : w1.frozen? ⟨g, j * 5 + 3, none⟩ = false := World.ownsRow.frozenAt HO1.out.1 _
  have f4 : w1.frozen? ⟨g, j * 5 + 4, none⟩ = false := World.ownsRow.frozenAt HO1.out.1 _
  have HO2 := Lib.hid (HO1.out.1.set j (H i) hj)
  go_simp
  refine (show K _ (set5 w1 g j (H i)) from hK _ _ (.inl (by kernel_rfl)) ?_)
  clear hK K j0 j1 j2 j3 j4 f0 f1 f2 f3 f4
  generalize set5 w1 g j (H i) = w2 at *
  have HQ2 := Lib.hid (show QS w2 qb mb B (.slice (some ⟨g, 0, none⟩) m cap) (swp H i j) m nx from HQ.out.own' (Fut.refl w).drew (World.grownBy.trans HO1.out.2 HO2.out.2) HO2.out.1 (fun k hk => by
    by_cases e1 : k = j
    · subst e1; rw [swp_right]; exact HQ.out.hd i hi
    · by_cases e2 : k = i
      · subst e2; rw [swp_left]; exact HQ.out.hd j hj
      · rw [swp_other _ _ _ _ e2 e1]; exact HQ.out.hd k hk))
  have HF2 := Lib.hid (show FutS (SQ qb mb (.slice (some ⟨g, 0, none⟩) m cap)) w w2 from futS_grown (futS_grown (FutS.refl w).drew HO1.out.2 sq_g) HO2.out.2 sq_g)
  clear HO1 HO2 HQ
  refine wpF_nil ?_
  obtain ⟨S, hS⟩ : ∃ S : Nat → Bool, S = fun q => q == mb := ⟨_, rfl⟩
  have hSq : S qb = false := by rw [hS]; simp [HQ2.out.ne]
  have hSg : S g = false := by
    rw [hS]
    have := HQ2.out.mB
    have := HBG.out
    simp
    omega
  have HSM := Lib.hid (show S mb = true from by rw [hS]; simp)
  clear hS
  obtain ⟨i0, i1, i2, i3, i4⟩ := HQ2.out.own.at hi
  obtain ⟨j0, j1, j2, j3, j4⟩ := HQ2.out.own.at hj
  have x1 := cell_futS (HQ2.out.q.cell (i := 1) rfl) hSq
  have x2 := cell_futS (HQ2.out.q.cell (i := 2) rfl) hSq
  have a3 := cell_futS i3 hSg
  have b3 := cell_futS j3 hSg
  clear i0 i1 i2 i3 i4 j0 j1 j2 j3 j4 hSq hSg
  obtain ⟨ih, hih⟩ : ∃ z, z = (swp H i j i).hd := ⟨_, rfl⟩
  obtain ⟨jh, hjh⟩ : ∃ z, z = (swp H i j j).hd := ⟨_, rfl⟩
  rw [← hih] at a3
  rw [← hjh] at b3
  have HIH := Lib.hid (show 0 ≤ ih ∧ ih ≤ 1000000000000 from by have := HQ2.out.hd i hi; have := HQ2.out.nx1; rw [hih]; omega)
  have HJH := Lib.hid (show 0 ≤ jh ∧ jh ≤ 1000000000000 from by have := HQ2.out.hd j hj; have := HQ2.out.nx1; rw [hjh]; omega)
  clear hih hjh
  go_wp2_with fail
  refine wp_region_MG (relS S) o_pqueue_Queue_knuth_candidate_swap_1 (by kernel_rfl) (by kernel_rfl) (by intro c a d v w h; cases d <;> exact h) ?_; unfold o_pqueue_Queue_knuth_candidate_swap_1
  iterate 26 (refine wpS_h rfl rfl (fun K hK => ?_); go_simp; refine hK _ _ ?_; clear hK K)
  refine wpG_o rfl rfl (fun K hK => ?_)
  refine wp_ment (.tmp 35) (.tmp 43) rfl rfl (b := mb) HQ2.out.mp ih rfl HIH.out.1 HIH.out.2 ?_
  intro v3 st3 w3 hm3 hg3 hE3
  refine hK _ _ (.inr (FutS.grownS hg3 (fun k hk => by cases hk; exact HSM.out))) ?_
  clear hK K
  have HQ3 := Lib.hid ((HQ2.out.go (Fut.refl w2).drew).mapped hg3 hm3)
  have HF3 := Lib.hid (futS_grown HF2.out.drew hg3 sq_m)
  have HE3 := Lib.hid hE3
  clear hm3 hg3 hE3
  (refine wpS_h rfl rfl (fun K hK => ?_); go_simp; refine hK _ _ ?_; clear hK K)
  refine wpG_o rfl rfl (fun K hK => ?_)
  refine wp_mest (.tmp 35) (.tmp 59) (.tmp 56) rfl rfl st3 rfl HE3.out ?_
  intro w4 hm4 hg4
  refine hK _ _ (.inr (FutS.grownS hg4 (fun k hk => by cases hk; exact HSM.out))) ?_
  clear hK K
  have HQ4 := Lib.hid (HQ3.out.mapped hg4 hm4)
  have HF4 := Lib.hid (futS_grown HF3.out hg4 sq_m)
  clear hm4 hg4
  refine wpG_o rfl rfl (fun K hK => ?_)
  refine wp_ment (.tmp 47) (.tmp 55) rfl rfl (b := mb) HQ4.out.mp jh rfl HJH.out.1 HJH.out.2 ?_
  intro v5 st5 w5 hm5 hg5 hE5
  refine hK _ _ (.inr (FutS.grownS hg5 (fun k hk => by cases hk; exact HSM.out))) ?_
  clear hK K
  have HQ5 := Lib.hid (HQ4.out.mapped hg5 hm5)
  have HF5 := Lib.hid (futS_grown HF4.out hg5 sq_m)
  have HE5 := Lib.hid hE5
  clear hm5 hg5 hE5
  (refine wpS_h rfl rfl (fun K hK => ?_); go_simp; refine hK _ _ ?_; clear hK K)
  refine wpG_o rfl rfl (fun K hK => ?_)
  refine wp_mest (.tmp 47) (.tmp 61) (.tmp 57) rfl rfl st5 rfl HE5.out ?_
  intro w6 hm6 hg6
  refine hK _ _ (.inr (FutS.grownS hg6 (fun k hk => by cases hk; exact HSM.out))) ?_
  clear hK K
  have HQ6 := Lib.hid (HQ5.out.mapped hg6 hm6)
  have HF6 := Lib.hid (futS_grown HF5.out hg6 sq_m)
  clear hm6 hg6
  refine wpG_nil ?_
  go_wp2_with fail
  go_returns
  exact ⟨rfl, HQ6.out, HF6.out⟩
end Go.Proofs.Ytleapckcihcpaaa
