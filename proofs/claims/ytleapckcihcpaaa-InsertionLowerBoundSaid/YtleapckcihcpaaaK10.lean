/-
  The queue: Pop.
-/
import Derived.Test.YtleapckcihcpaaaK9
namespace Go.Proofs.Ytleapckcihcpaaa
open Go.RowKit Go.Deep PK
attribute [local go_sem] Oper.lit Oper.litS fut_fut fut_drew World.cell?_alloc_some
attribute [local go_sem] World.frozen?_setCell
theorem QS.setOther {w : World} {qb mb B : Nat} {v : Value} {H : Nat → EN} {m nx : Nat} (h : QS w qb mb B v H m nx) {a : Addr} (ha : ∀ k, SQ qb mb v k = true → k ≠ a.block) (u : Value) : QS (w.setCell a u) qb mb B v H m nx := by
  refine ⟨h.q.setOther (ha _ sq_q) u, h.mp.setCell (ha _ sq_m) u, World.ownsRow.kept h.own (grown_set w a u) ?_, h.qB, h.mB, by rw [World.size_setCell]; exact h.sz, h.hd, h.nx1, h.mx⟩
  cases hv : v.ownBlock with
  | none => exact .inl rfl
  | some k =>
    right
    intro e
    exact ha k (by simp [SQ, hv]) (Option.some.inj e)
set_option maxHeartbeats 6400000 in
theorem pop_any {w : World} {qb mb B : Nat} {v : Value} {H : Nat → EN} {m nx : Nat} (h : QS w qb mb B v H m nx) (hh : HeapOK bef H m) :
    Calls Try.prog 43 #[.pointer (some ⟨qb, 0, none⟩)] w fun r w' => ((m = 0 ∧ r = .returned (.tuple #[cv 0 ⟨0, 0⟩, .bool false]) ∧ QS w' qb mb B v H m nx) ∨
      (0 < m ∧ r = .returned (.tuple #[cv ((H 0).n : Int) (H 0).v, .bool true]) ∧ ∃ v' H', QS w' qb mb B v' H' (m - 1) nx ∧ HeapOK bef H' (m - 1) ∧ (∀ c, (∃ k, k < m ∧ H k = c) ↔ c = H 0 ∨ ∃ k, k < m - 1 ∧ H' k = c) ∧ v'.ownBlock = v.ownBlock)) ∧ FutS (SQ qb mb v) w w' := by
  have HQ := Lib.hid h
  have HH := Lib.hid hh
  have hmx : m ≤ nx := h.mx
  have hnx1 : nx ≤ 100000000000 := h.nx1
  have HF0 := Lib.hid (show Fut w (w.alloc (.cells #[.int .i64 0, .int .i64 0, .int .i64 0] 82)) from (Fut.refl w).alloc _)
  have HQ0 := Lib.hid (h.go HF0.out)
  have HR0 := Lib.hid (show Blk (w.alloc (.cells #[.int .i64 0, .int .i64 0, .int .i64 0] 82)) w.heap.size 82 #[.int .i64 0, .int .i64 0, .int .i64 0] from Blk.new w _ _)
  have HRL := Lib.hid (show w.heap.size ≤ w.heap.size from Nat.le_refl _)
  obtain ⟨rb, hrb⟩ : ∃ q, q = w.heap.size := ⟨_, rfl⟩
  have HRB := Lib.hid hrb
  clear h hh HRL
  by_cases hm : m = 0
  · subst hm
    obtain ⟨VA, vc, hv, _⟩ := own_form HQ0.out.own
    have x0 := HQ0.out.q.cell (i := 1) rfl
    rw [hv] at x0
    clear hv
    go_enter Try.func43, Try.ntmps43
    go_wp2_with fail
    generalize w.alloc (.cells #[.int .i64 0, .int .i64 0, .int .i64 0] 82) = wa at *
    rw [← HRB.out] at HR0 ⊢
    clear hrb x0
    refine bodyPost_ret (res_cell2 pop_res _ _ rb _ _ _ _ rfl (HR0.out.alloc _) Try.underlying82 rfl (by kernel_rfl)) rfl ?_
    exact ⟨⟨rfl, HQ0.out.go ((Fut.refl wa).alloc _)⟩, FutS.of (HF0.out.alloc _)⟩
  · obtain ⟨l, hl⟩ : ∃ l, m = l + 1 := ⟨m - 1, by omega⟩
    have hlm : (m : Int) - 1 = (l : Int) := by omega
    have HLM := Lib.hid hl
    have hm0 : 0 < m := by omega
    have wlm : IntKind.i64.wrap ((m : Int) - 1) = (l : Int) := by rw [IntKind.wrap_i64]; omega
    have hlb : l ≤ 100000000000 := by omega
    have hm9 : m - 1 = l := by omega
    obtain ⟨g, cap, rfl, hBg, hgl, hmc, hcap⟩ := HQ.out.own.form (by omega)
    have HBG := Lib.hid hBg
    have klc : l ≤ cap := by omega
    have wl2 : IntKind.i64.wrap (l : Int) = (l : Int) := by rw [IntKind.wrap_i64]; omega
    have x0 := HQ0.out.q.cell (i := 1) rfl
    obtain ⟨a0, a1, a2, a3, a4⟩ := HQ0.out.own.at (i := 0) (by omega)
    simp only [Nat.zero_mul, Nat.zero_add] at a0 a1 a2 a3 a4
    obtain ⟨en, hen⟩ : ∃ z, z = ((H 0).n : Int) := ⟨_, rfl⟩
    obtain ⟨ec, hec⟩ : ∃ z, z = (H 0).v.c := ⟨_, rfl⟩
    obtain ⟨e2, he2⟩ : ∃ z, z = (H 0).v.s := ⟨_, rfl⟩
    obtain ⟨eh, heh⟩ : ∃ z, z = (H 0).hd := ⟨_, rfl⟩
    obtain ⟨et, het⟩ : ∃ z, z = (H 0).tm := ⟨_, rfl⟩
    rw [← hen] at a0
    rw [← hec] at a1
    rw [← he2] at a2
    rw [← heh] at a3
    rw [← het] at a4
    have HEV := Lib.hid (And.intro hen (And.intro hec he2))
    have HEH := Lib.hid (show 0 ≤ eh ∧ eh ≤ 1000000000000 from by have := HQ.out.hd 0 (by omega); rw [heh]; omega)
    clear hen hec he2 heh het hl hBg hgl hmc hcap
    go_enter Try.func43, Try.ntmps43
    go_wp2_with fail
    generalize w.alloc (.cells #[.int .i64 0, .int .i64 0, .int .i64 0] 82) = wa at *
    rw [← HRB.out] at HR0 ⊢
    clear hrb
    obtain ⟨S, hS⟩ : ∃ S : Nat → Bool, S = fun q => decide (wa.heap.size ≤ q) := ⟨_, rfl⟩
    have hSl : ∀ q, q < wa.heap.size → S q = false := fun q hq => by rw [hS]; exact decide_eq_false (by omega)
    have HSO := Lib.hid (show ∀ q, wa.heap.size ≤ q → S q = true from fun q hq => by rw [hS]; exact decide_eq_true hq)
    clear hS
    have x0 := cell_futS x0 (hSl _ HQ0.out.q.lt)
    have a0 := cell_futS a0 (hSl _ (World.block_lt_of_cell? _ _ a0))
    have a1 := cell_futS a1 (hSl _ (World.block_lt_of_cell? _ _ a1))
    have a2 := cell_futS a2 (hSl _ (World.block_lt_of_cell? _ _ a2))
    have a3 := cell_futS a3 (hSl _ (World.block_lt_of_cell? _ _ a3))
    have a4 := cell_futS a4 (hSl _ (World.block_lt_of_cell? _ _ a4))
    clear hSl
    refine wp_region_MG (relS S) o_pqueue_Queue_knuth_candidate_Pop_3 (by kernel_rfl) (by kernel_rfl) (by intro c a d v w h; cases d <;> exact h) ?_; unfold o_pqueue_Queue_knuth_candidate_Pop_3
    iterate 12 (refine wpS_h rfl rfl (fun K hK => ?_); go_simp; refine hK _ _ ?_; clear hK K)
    refine wpG_o rfl rfl (fun K hK => ?_)
    go_simp
    refine hK _ _ (.inr ((relS S).of_fut ((Fut.refl _).alloc _))) ?_
    clear hK K x0 a0 a1 a2 a3 a4
    obtain ⟨p, hp⟩ : ∃ q, q = wa.heap.size := ⟨_, rfl⟩
    rw [← hp]
    have HP := Lib.hid (show Blk (wa.alloc (.cells #[.int .i64 0, .int .i64 0, .int .i64 0, .int .i64 0, .int .i64 0] 101)).drew p 101 #[.int .i64 0, .int .i64 0, .int .i64 0, .int .i64 0, .int .i64 0] from by rw [hp]; exact (Blk.new wa _ _).drew)
    have HSP := Lib.hid (show S p = true from HSO.out p (by omega))
    have HPL := Lib.hid (show wa.heap.size ≤ p from by omega)
    have HFS := Lib.hid (show Fut wa (wa.alloc (.cells #[.int .i64 0, .int .i64 0, .int .i64 0, .int .i64 0, .int .i64 0] 101)).drew from ((Fut.refl wa).alloc _).drew)
    clear hp
    generalize (wa.alloc (.cells #[.int .i64 0, .int .i64 0, .int .i64 0, .int .i64 0, .int .i64 0] 101)).drew = ws at *
    refine wpG_o rfl rfl (fun K hK => ?_)
    have u0 := HP.out.cell (i := 0) rfl
    have f0 := HP.out.fz 0
    have u1 := HP.out.cell (i := 1) rfl
    have f1 := HP.out.fz 1
    have u2 := HP.out.cell (i := 2) rfl
    have f2 := HP.out.fz 2
    have u3 := HP.out.cell (i := 3) rfl
    have f3 := HP.out.fz 3
    have u4 := HP.out.cell (i := 4) rfl
    have f4 := HP.out.fz 4
    go_simp
    refine hK _ _ (.inr ((relS S).trans (futS_set _ _ _ HSP.out) ((relS S).trans (futS_set _ _ _ HSP.out) ((relS S).trans (futS_set _ _ _ HSP.out) ((relS S).trans (futS_set _ _ _ HSP.out) (futS_set _ _ _ HSP.out)))))) ?_
    clear hK K u0 u1 u2 u3 u4 f0 f1 f2 f3 f4
    have HP2 := Lib.hid (show Blk (((((ws.setCell ⟨p, 0, none⟩ (.int .i64 en)).setCell ⟨p, 1, none⟩ (.int .i64 ec)).setCell ⟨p, 2, none⟩ (.int .i64 e2)).setCell ⟨p, 3, none⟩ (.int .i64 eh)).setCell ⟨p, 4, none⟩ (.int .i64 et)) p 101 #[.int .i64 en, .int .i64 ec, .int .i64 e2, .int .i64 eh, .int .i64 et] from ((((HP.out.set 0 _).set 1 _).set 2 _).set 3 _).set 4 _)
    have HFZ := Lib.hid (show Fut wa (((((ws.setCell ⟨p, 0, none⟩ (.int .i64 en)).setCell ⟨p, 1, none⟩ (.int .i64 ec)).setCell ⟨p, 2, none⟩ (.int .i64 e2)).setCell ⟨p, 3, none⟩ (.int .i64 eh)).setCell ⟨p, 4, none⟩ (.int .i64 et)) from ((((HFS.out.setCell (p := ⟨p, 0, none⟩) HPL.out _).setCell (p := ⟨p, 1, none⟩) HPL.out _).setCell (p := ⟨p, 2, none⟩) HPL.out _).setCell (p := ⟨p, 3, none⟩) HPL.out _).setCell (p := ⟨p, 4, none⟩) HPL.out _)
    generalize (((((ws.setCell ⟨p, 0, none⟩ (.int .i64 en)).setCell ⟨p, 1, none⟩ (.int .i64 ec)).setCell ⟨p, 2, none⟩ (.int .i64 e2)).setCell ⟨p, 3, none⟩ (.int .i64 eh)).setCell ⟨p, 4, none⟩ (.int .i64 et)) = wz at *
    clear HP HFS HSP HSO
    (refine wpS_h rfl rfl (fun K hK => ?_); go_simp; refine hK _ _ ?_; clear hK K)
    refine wpG_nil ?_
    have HQZ := Lib.hid (HQ0.out.go HFZ.out)
    have HRZ := Lib.hid (HR0.out.fut HFZ.out)
    have HFW := Lib.hid (show FutS (SQ qb mb (.slice (some ⟨g, 0, none⟩) m cap)) w wz from FutS.of (HF0.out.trans HFZ.out))
    have HPN := Lib.hid (show ∀ k, SQ qb mb (.slice (some ⟨g, 0, none⟩) m cap) k = true → k ≠ p ∧ k ≠ rb from fun k hk => by
      have h1 : k < w.heap.size := by
        simp only [SQ, Value.ownBlock, Bool.or_eq_true, beq_iff_eq, Option.some.injEq] at hk
        rcases hk with (rfl | rfl) | rfl
        · exact HQ.out.q.lt
        · exact HQ.out.mp.lt
        · exact (World.ownsRow.lt HQ.out.own _ rfl).2
      have h2 := HRB.out
      have h3 := HPL.out
      have h4 := HF0.out.size
      exact ⟨by omega, by omega⟩)
    clear HR0 HQ0 HPL
    go_wp2_with fail
    have hsw := swap_any HQZ.out 0 l (by omega) (by omega)
    refine Calls.mono hsw ?_
    clear hsw
    rintro r w1 ⟨rfl, hs1, hs2⟩
    have HS1 := Lib.hid hs1
    have HP3 := Lib.hid (HP2.out.futS hs2 (by cases e : SQ qb mb (.slice (some ⟨g, 0, none⟩) m cap) p with | false => rfl | true => exact absurd rfl (HPN.out _ e).1))
    have HR3 := Lib.hid (HRZ.out.futS hs2 (by cases e : SQ qb mb (.slice (some ⟨g, 0, none⟩) m cap) rb with | false => rfl | true => exact absurd rfl (HPN.out _ e).2))
    have HF1 := Lib.hid (HFW.out.trans hs2)
    clear hs1 hs2 HP2 HRZ HFW
    have x1 := HS1.out.q.cell (i := 1) rfl
    have f1 := HS1.out.q.fz 1
    go_wp2_with fail
    have HQ2 := Lib.hid (HS1.out.q.set 1 (.slice (some ⟨g, 0, none⟩) l cap))
    have HG2 := Lib.hid (grown_set w1 ⟨qb, 1, none⟩ (.slice (some ⟨g, 0, none⟩) l cap))
    have HMS := Lib.hid (HS1.out.mp.setCell (a := ⟨qb, 1, none⟩) (Ne.symm HS1.out.ne) (.slice (some ⟨g, 0, none⟩) l cap))
    have HO2 := Lib.hid (show OwnN (w1.setCell ⟨qb, 1, none⟩ (.slice (some ⟨g, 0, none⟩) l cap)) B (.slice (some ⟨g, 0, none⟩) l cap) (swp H 0 l) l from by
      have h9 := HS1.out.own
      rw [HLM.out] at h9
      exact World.ownsRow.kept (OwnN.cut h9) (grown_set w1 ⟨qb, 1, none⟩ _) (.inr (by simp only [Value.ownBlock]; intro e; have := Option.some.inj e; have := HS1.out.qB; have := HBG.out; omega)))
    have HP4 := Lib.hid (HP3.out.setOther (a := ⟨qb, 1, none⟩) (fun e => (HPN.out qb sq_q).1 e.symm) (.slice (some ⟨g, 0, none⟩) l cap))
    have HR4 := Lib.hid (HR3.out.setOther (a := ⟨qb, 1, none⟩) (fun e => (HPN.out qb sq_q).2 e.symm) (.slice (some ⟨g, 0, none⟩) l cap))
    have HF2 := Lib.hid (futS_grown HF1.out HG2.out sq_q)
    clear HP3 HR3 HF1 x1 f1
    generalize w1.setCell ⟨qb, 1, none⟩ (.slice (some ⟨g, 0, none⟩) l cap) = w2 at *
    have HQS2 := Lib.hid (show QS w2 qb mb B (.slice (some ⟨g, 0, none⟩) l cap) (swp H 0 l) l nx from ⟨HQ2.out, HMS.out, HO2.out, HS1.out.qB, HS1.out.mB, Nat.le_trans HS1.out.sz HG2.out.size, fun i hi => HS1.out.hd i (by omega), hnx1, by omega⟩)
    clear HQ2 HMS HO2 HG2
    have x2 := cell_fut (HQS2.out.q.cell (i := 2) rfl)
    have y3 := cell_fut (HP4.out.cell (i := 3) rfl)
    refine wp_region_M o_pqueue_Queue_knuth_candidate_Pop_6 (by kernel_rfl) (by kernel_rfl) (by intro c a d v w h; cases d <;> exact h) ?_; unfold o_pqueue_Queue_knuth_candidate_Pop_6
    iterate 6 (refine wpF_h rfl rfl (fun K hK => ?_); go_simp; refine hK _ _ ?_; clear hK K)
    refine wpF_ol rfl (by kernel_rfl) rfl (fun K hK => ?_)
    refine wp_mdel (.tmp 42) (.tmp 44) rfl rfl (b := mb) HQS2.out.mp eh rfl HEH.out.1 HEH.out.2 ?_
    intro w3 hm3 hg3
    refine hK _ _ ?_
    clear hK K x2 y3
    have hg3' : w2.grownBy w3 (some mb) := ⟨hg3.os, hg3.tape, hg3.output, hg3.size, hg3.block⟩
    have HQS3 := Lib.hid (HQS2.out.mapped hg3' hm3)
    have HF3 := Lib.hid (futS_grown HF2.out hg3' sq_m)
    have HP5 := Lib.hid (HP4.out.grown hg3' (fun e => (HPN.out mb sq_m).1 (Option.some.inj e).symm))
    have HR5 := Lib.hid (HR4.out.grown hg3' (fun e => (HPN.out mb sq_m).2 (Option.some.inj e).symm))
    clear hm3 hg3 hg3' HQS2 HF2 HP4 HR4
    refine wpF_nil ?_
    go_wp2_with fail
    have hdn := HeapOK.pop HH.out hm0
    rw [hm9] at hdn
    refine (down_any HQS3.out hdn).mono ?_
    clear hdn
    rintro r w4 ⟨rfl, ⟨H', hd1, hd2, hd3⟩, hd4⟩
    have hsq : ∀ k, SQ qb mb (.slice (some ⟨g, 0, none⟩) l cap) k = SQ qb mb (.slice (some ⟨g, 0, none⟩) m cap) k := fun k => rfl
    have HP6 := Lib.hid (HP5.out.futS hd4 (by cases e : SQ qb mb (.slice (some ⟨g, 0, none⟩) l cap) p with | false => rfl | true => exact absurd rfl (HPN.out _ (by rw [← hsq]; exact e)).1))
    have HR6 := Lib.hid (HR5.out.futS hd4 (by cases e : SQ qb mb (.slice (some ⟨g, 0, none⟩) l cap) rb with | false => rfl | true => exact absurd rfl (HPN.out _ (by rw [← hsq]; exact e)).2))
    have HD1 := Lib.hid (And.intro hd1 (And.intro hd2 hd3))
    have HF4 := Lib.hid (HF3.out.trans (hd4.mono (fun k hk => .inl (by rw [← hsq]; exact hk))))
    clear hd1 hd2 hd3 hd4 hsq HP5 HR5 HF3 HQS3
    have t0 := HP6.out.cell (i := 0) rfl
    have t1 := HP6.out.cell (i := 1) rfl
    have t2 := HP6.out.cell (i := 2) rfl
    have r0 := HR6.out.cell (i := 0) rfl
    have r1 := HR6.out.cell (i := 1) rfl
    have r2 := HR6.out.cell (i := 2) rfl
    have f0 := HR6.out.fz 0
    have f1 := HR6.out.fz 1
    have f2 := HR6.out.fz 2
    have HRR := Lib.hid (((HR6.out.set 0 (.int .i64 en)).set 1 (.int .i64 ec)).set 2 (.int .i64 e2))
    have HFF := Lib.hid (show Fut w4 w4 from Fut.refl w4)
    go_wp2_with fail
    refine bodyPost_ret (res_cell2 pop_res _ _ rb _ _ _ _ rfl HRR.out Try.underlying82 rfl (by kernel_rfl)) rfl ?_
    have HPN2 := Lib.hid (show ∀ k, SQ qb mb (.slice (some ⟨g, 0, none⟩) l cap) k = true → k ≠ rb from fun k hk => (HPN.out k hk).2)
    refine ⟨.inr ⟨hm0, ?_, .slice (some ⟨g, 0, none⟩) l cap, H', ?_, ?_, fun c => ?_, rfl⟩, ((HF4.out.setCell (a := ⟨rb, 0, none⟩) (.inr (by rw [HRB.out]; exact Nat.le_refl _)) _).setCell (a := ⟨rb, 1, none⟩) (.inr (by rw [HRB.out]; exact Nat.le_refl _)) _).setCell (a := ⟨rb, 2, none⟩) (.inr (by rw [HRB.out]; exact Nat.le_refl _)) _⟩
    · rw [show cv ((H 0).n : Int) (H 0).v = .agg #[.int .i64 en, .int .i64 ec, .int .i64 e2] from by rw [HEV.out.1, HEV.out.2.1, HEV.out.2.2]]
      rfl
    · rw [hm9]
      exact ((HD1.out.1.setOther (a := ⟨rb, 0, none⟩) HPN2.out _).setOther (a := ⟨rb, 1, none⟩) HPN2.out _).setOther (a := ⟨rb, 2, none⟩) HPN2.out _
    · rw [hm9]; exact HD1.out.2.1
    · rw [pop_mem H hm0 c, hm9, HD1.out.2.2 c]
end Go.Proofs.Ytleapckcihcpaaa
