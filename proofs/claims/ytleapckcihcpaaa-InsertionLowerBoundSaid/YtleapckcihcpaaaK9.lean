/-
  The queue: Push, Pop.
-/
import Derived.Test.YtleapckcihcpaaaK8
namespace Go.Proofs.Ytleapckcihcpaaa
open Go.RowKit Go.Deep PK
attribute [local go_sem] Oper.lit Oper.litS fut_fut fut_drew World.cell?_alloc_some
attribute [local go_sem] World.frozen?_setCell
theorem info_en : (Try.prog.info? 101).map (fun i => (i.zero, i.size, i.bytes)) = some (some (.agg #[.int .i64 0, .int .i64 0, .int .i64 0, .int .i64 0, .int .i64 0]), 5, 40) := by kernel_rfl
theorem res_cell2 {P : Program} {fn : Func} {p q : Tmp} {ty : TypeId} (h : fn.results = #[.cell p ty, .tmp q]) (tmps : Array Value) (w : World) (g : Nat) (t : TypeId) (cs : Array Value) (fr : Nat × Nat) (d : TypeDesc)
    (hp : tmps.getD p undef = .pointer (some ⟨g, 0, none⟩)) (hg : w.heap[g]? = some (.cells cs t fr))
    (hu : P.underlying ty = some d) (hd : (match d with | .struct _ | .array _ _ => true | _ => false) = true) (hi : (P.info? ty).map (·.size) = some cs.size) :
    (results fn tmps).run P w = .ok (.tuple #[.agg cs, tmps.getD q undef]) w := by
  have hp' : tmps[p]?.getD undef = .pointer (some ⟨g, 0, none⟩) := by simpa using hp
  simp [results, h, hp', asAddr, run_loadVar_row w g t ty cs fr d hg hu hd hi]
/-- an order for Push's region 4: the loads where they stand -/
def o_push4 : Sched := .hoist 0 (.hoist 1 (.hoist 2 (.hoist 3 (.hoist 4 (.hoist 7 (.hoist 8 (.hoist 9 (.two 5 (.hoist 6 (.one 10 (.hoist 11 (.hoist 12 (.hoist 13 (.one 14 (.hoist 15 (.hoist 16 (.one 17 .done)))))))))
  10 (.hoist 11 (.one 5 (.hoist 6 (.hoist 12 (.hoist 13 (.one 14 (.hoist 15 (.hoist 16 (.one 17 .done))))))))))))))))) 
theorem pop_res : Try.f43.results = #[.cell 2 82, .tmp 3] := by kernel_rfl
theorem FutS.then' {S T : Nat → Bool} {a b c : World} (h : FutS S a b) (k : FutS T b c) (hST : ∀ k, k < a.heap.size → T k = true → S k = true) : FutS S a c :=
  ⟨k.os.trans h.os, k.tape.trans h.tape, k.output.trans h.output, Nat.le_trans h.size k.size, fun i hi hs => (k.block i (Nat.lt_of_lt_of_le hi h.size) (by
    cases e : T i with
    | false => rfl
    | true => rw [hST i hi e] at hs; cases hs)).trans (h.block i hi hs)⟩
/-- the heap's row is the same or a new one -/
theorem sq_row {qb mb g m cap : Nat} {v : Value} {w : World} (h : v.ownBlock = some g ∨ w.heap.size ≤ g) : ∀ k, k < w.heap.size → SQ qb mb (.slice (some ⟨g, 0, none⟩) m cap) k = true → SQ qb mb v k = true := by
  intro k hk hs
  simp only [SQ, Value.ownBlock, Bool.or_eq_true, beq_iff_eq, Option.some.injEq] at hs ⊢
  rcases hs with hs | hs
  · exact .inl hs
  · subst hs
    rcases h with h | h
    · exact .inr h
    · omega
theorem upd_mem {m : Nat} {H : Nat → EN} {e : EN} (c : EN) : (∃ k, k < m + 1 ∧ upd H m e k = c) ↔ c = e ∨ ∃ k, k < m ∧ H k = c := by
  constructor
  · rintro ⟨k, hk, h⟩
    by_cases e1 : k = m
    · subst e1; rw [upd_same] at h; exact .inl h.symm
    · rw [upd_other _ _ _ _ e1] at h; exact .inr ⟨k, by omega, h⟩
  · rintro (h | ⟨k, hk, h⟩)
    · exact ⟨m, by omega, by rw [upd_same]; exact h.symm⟩
    · exact ⟨k, by omega, by rw [upd_other _ _ _ _ (by omega)]; exact h⟩
set_option maxHeartbeats 6400000 in
theorem push_any {w : World} {qb mb B : Nat} {v : Value} {H : Nat → EN} {m nx : Nat} (h : QS w qb mb B v H m nx) (hh : HeapOK bef H m) (hnx : nx < 100000000000) (n : Nat) (x : VV) :
    Calls Try.prog 51 #[.pointer (some ⟨qb, 0, none⟩), cv (n : Int) x] w fun r w' => (∃ u, r = .returned u) ∧ (∃ v' H', QS w' qb mb B v' H' (m + 1) (nx + 1) ∧ HeapOK bef H' (m + 1) ∧ (∀ c, (∃ k, k < m + 1 ∧ H' k = c) ↔ c = ⟨n, x, nx, nx⟩ ∨ ∃ k, k < m ∧ H k = c)) ∧ FutS (SQ qb mb v) w w' := by
  obtain ⟨xc, xs⟩ := x
  have HQ := Lib.hid h
  have HH := Lib.hid hh
  have hmx : m ≤ nx := h.mx
  obtain ⟨VA, vc, hv, _⟩ := own_form h.own
  have HV := Lib.hid hv
  have HF0 := Lib.hid (show Fut w (w.alloc (.cells #[.int .i64 (n : Int), .int .i64 xc, .int .i64 xs] 82)) from (Fut.refl w).alloc _)
  have HQ0 := Lib.hid (h.go HF0.out)
  have HB0 := Lib.hid (show Blk (w.alloc (.cells #[.int .i64 (n : Int), .int .i64 xc, .int .i64 xs] 82)) w.heap.size 82 #[.int .i64 (n : Int), .int .i64 xc, .int .i64 xs] from Blk.new w _ _)
  have x0 := cell_fut (HQ0.out.q.cell (i := 1) rfl)
  rw [hv] at x0
  have x1 := cell_fut (HQ0.out.q.cell (i := 3) rfl)
  clear h hh hv
  go_enter Try.func51, Try.ntmps51
  go_wp2_with fail
  generalize w.alloc (.cells #[.int .i64 (n : Int), .int .i64 xc, .int .i64 xs] 82) = wa at *
  obtain ⟨xb, hxb⟩ : ∃ q, q = w.heap.size := ⟨_, rfl⟩
  rw [← hxb] at HB0 ⊢
  have HXB := Lib.hid hxb
  clear hxb
  refine wp_region_M o_pqueue_Queue_knuth_candidate_Push_1 (by kernel_rfl) (by kernel_rfl) (by intro c a d v w h; cases d <;> exact h) ?_; unfold o_pqueue_Queue_knuth_candidate_Push_1
  iterate 11 (refine wpF_h rfl rfl (fun K hK => ?_); go_simp; refine hK _ _ ?_; clear hK K)
  refine wpF_nil ?_
  clear x0 x1
  replace HQ0 := Lib.hid (show QS wa.drew qb mb B v H m nx from HQ0.out.go (Fut.refl wa).drew)
  replace HB0 := Lib.hid (show Blk wa.drew xb 82 #[.int .i64 (n : Int), .int .i64 xc, .int .i64 xs] from HB0.out.drew)
  replace HF0 := Lib.hid (show Fut w wa.drew from HF0.out.drew)
  generalize wa.drew = wa at *
  go_wp2_with fail
  obtain ⟨S, hS⟩ : ∃ S : Nat → Bool, S = fun q => v.ownBlock == some q := ⟨_, rfl⟩
  have hlt9 := fun k hk => (World.ownsRow.lt HQ0.out.own k hk)
  have hSB : ∀ k, k < B → S k = false := fun k hk => by
    rw [hS]
    cases e : (v.ownBlock == some k) with
    | false => exact e
    | true => have := (hlt9 k (by simpa using e)).1; omega
  have hSX : S xb = false := by
    rw [hS]
    cases e : (v.ownBlock == some xb) with
    | false => exact e
    | true =>
      have := (World.ownsRow.lt HQ.out.own xb (by simpa using e)).2
      have := HXB.out
      omega
  have HSV := Lib.hid (show ∀ k, v.ownBlock = some k → S k = true from fun k hk => by rw [hS]; simp [hk])
  have x0 : ∀ f d o, (futS wa S f d o).cell? ⟨qb, 1, none⟩ = some (.slice VA m vc) := cell_futS (by rw [← HV.out]; exact HQ0.out.q.cell (i := 1) rfl) (hSB _ HQ0.out.qB)
  have x1 := cell_futS (HQ0.out.q.cell (i := 4) rfl) (hSB _ HQ0.out.qB)
  have y0 := cell_futS (HB0.out.cell (i := 0) rfl) hSX
  have y1 := cell_futS (HB0.out.cell (i := 1) rfl) hSX
  have y2 := cell_futS (HB0.out.cell (i := 2) rfl) hSX
  clear hlt9 hSB hSX hS
  refine wp_region_MG (relS S) o_pqueue_Queue_knuth_candidate_Push_2 (by kernel_rfl) (by kernel_rfl) (by intro c a d v w h; cases d <;> exact h) ?_; unfold o_pqueue_Queue_knuth_candidate_Push_2
  iterate 12 (refine wpS_h rfl rfl (fun K hK => ?_); go_simp; refine hK _ _ ?_; clear hK K)
  refine wpG_o rfl rfl (fun K hK => ?_)
  go_simp
  go_at_K
  refine hK _ _ (.inr ((relS S).of_fut ((Fut.refl _).alloc _))) ?_
  clear hK K x0 x1 y0 y1 y2
  obtain ⟨wc, hwc⟩ : ∃ wc, wc = (wa.alloc (.cells #[.int .i64 (n : Int), .int .i64 xc, .int .i64 xs, .int .i64 (nx : Int), .int .i64 (nx : Int)] 101)).drew := ⟨_, rfl⟩
  have HQC := Lib.hid (show QS wc qb mb B v H m nx from by rw [hwc]; exact HQ0.out.go ((Fut.refl wa).alloc _).drew)
  have HNB := Lib.hid (show wc.heap[wa.heap.size]? = some (.cells #[.int .i64 (n : Int), .int .i64 xc, .int .i64 xs, .int .i64 (nx : Int), .int .i64 (nx : Int)] 101 (0, 0)) from by rw [hwc]; exact heap_new' _ _ _ rfl)
  have HFC := Lib.hid (show Fut w wc from by rw [hwc]; exact HF0.out.trans ((Fut.refl wa).alloc _).drew)
  rw [show (wa.alloc (.cells #[.int .i64 (n : Int), .int .i64 xc, .int .i64 xs, .int .i64 (nx : Int), .int .i64 (nx : Int)] 101)).drew = wc from hwc.symm]
  clear hwc
  refine wpG_o rfl rfl (fun K hK => ?_)
  refine wp_push 95 101 5 40 _ Try.underlying95 info_en rfl (by decide) (by decide) (.tmp 20) (.tmp 28) rfl B (.slice VA m vc) m (entL H m) rfl (by rw [← HV.out]; exact HQC.out.own) wa.heap.size [.int .i64 (n : Int), .int .i64 xc, .int .i64 xs, .int .i64 (nx : Int), .int .i64 (nx : Int)] rfl HNB.out rfl (by simp [Value.oneCell']) (by omega) HQC.out.sz ?_
  intro g cap wd h1 h2 h3
  rw [← HV.out] at h2 h3
  have HSV2 := Lib.hid (show v.ownBlock = some g ∨ w.heap.size ≤ g from h3.imp id (fun e => by rw [e]; exact HFC.out.size))
  refine hK _ _ (.inr ((FutS.refl _).grown h2 (fun k hk => .inl (HSV.out k hk)))) ?_
  clear hK K
  have HOD := Lib.hid (show OwnN wd B (.slice (some ⟨g, 0, none⟩) (m + 1) cap) (upd H m ⟨n, ⟨xc, xs⟩, nx, nx⟩) (m + 1) from by
    show wd.ownsRow B 101 5 _ _ _
    rw [entL_succ]
    exact h1)
  have hltv : ∀ k, v.ownBlock = some k → B ≤ k := fun k hk => (World.ownsRow.lt HQC.out.own k hk).1
  have hnev : ∀ b, b < B → some b ≠ v.ownBlock := fun b hb e => by have := hltv b e.symm; omega
  have HQB := Lib.hid (show Blk wd qb 97 #[fless, v, .map (some mb), .int .i64 (nx : Int), .int .i64 (nx : Int)] from HQC.out.q.grown h2 (hnev _ HQC.out.qB))
  have HMB := Lib.hid (show MPi wd mb from HQC.out.mp.of_block (h2.block mb HQC.out.mp.lt (hnev _ HQC.out.mB)))
  have HFD := Lib.hid (show FutS (SQ qb mb v) w wd from (FutS.of HFC.out).grown h2 (fun k hk => .inl (by simp [SQ, hk])))
  have HSZ := Lib.hid (show B ≤ wd.heap.size from Nat.le_trans HQC.out.sz h2.size)
  clear h1 h2 h3 hltv hnev
  iterate 2 (refine wpS_h rfl rfl (fun K hK => ?_); go_simp; refine hK _ _ ?_; clear hK K)
  refine wpG_ol rfl (by kernel_rfl) rfl (fun K hK => ?_)
  have u1 := HQB.out.cell (i := 1) rfl
  have f1 := HQB.out.fz 1
  go_simp
  refine hK _ _ ?_
  clear hK K u1 f1
  have hgB : B ≤ g := ((World.ownsRow.lt HOD.out) g rfl).1
  have HQE := Lib.hid (show Blk (wd.setCell ⟨qb, 1, none⟩ (.slice (some ⟨g, 0, none⟩) (m + 1) cap)) qb 97 #[fless, .slice (some ⟨g, 0, none⟩) (m + 1) cap, .map (some mb), .int .i64 (nx : Int), .int .i64 (nx : Int)] from HQB.out.set 1 _)
  have HME := Lib.hid (show MPi (wd.setCell ⟨qb, 1, none⟩ (.slice (some ⟨g, 0, none⟩) (m + 1) cap)) mb from HMB.out.setCell (Ne.symm HQ.out.ne) _)
  have HOE := Lib.hid (show OwnN (wd.setCell ⟨qb, 1, none⟩ (.slice (some ⟨g, 0, none⟩) (m + 1) cap)) B (.slice (some ⟨g, 0, none⟩) (m + 1) cap) (upd H m ⟨n, ⟨xc, xs⟩, nx, nx⟩) (m + 1) from World.ownsRow.kept HOD.out (grown_set wd ⟨qb, 1, none⟩ _) (.inr (by simp only [Value.ownBlock]; intro e; have := Option.some.inj e; have := HQC.out.qB; omega)))
  have HFE := Lib.hid (show FutS (SQ qb mb v) w (wd.setCell ⟨qb, 1, none⟩ (.slice (some ⟨g, 0, none⟩) (m + 1) cap)) from HFD.out.setCell (a := ⟨qb, 1, none⟩) (.inl sq_q) _)
  have HSE := Lib.hid (show B ≤ (wd.setCell ⟨qb, 1, none⟩ (.slice (some ⟨g, 0, none⟩) (m + 1) cap)).heap.size from by rw [World.size_setCell]; exact HSZ.out)
  generalize wd.setCell ⟨qb, 1, none⟩ (.slice (some ⟨g, 0, none⟩) (m + 1) cap) = we at *
  clear HQB HMB HOD HFD HSZ
  refine wpG_nil ?_
  have u2 := HQE.out.cell (i := 2) rfl
  go_wp2_with (at_mapUpdate; refine wpList_mput rfl (.tmp 35) (.tmp 36) (.tmp 37) rfl rfl (b := mb) HME.out nx rfl (by omega) (by omega) ?_; intro wf hm5 hg5)
  have HQF := Lib.hid (HQE.out.grown hg5 (fun e => HQ.out.ne (Option.some.inj e)))
  have HOF := Lib.hid (show OwnN wf B (.slice (some ⟨g, 0, none⟩) (m + 1) cap) (upd H m ⟨n, ⟨xc, xs⟩, nx, nx⟩) (m + 1) from World.ownsRow.kept HOE.out hg5 (.inr (by simp only [Value.ownBlock]; intro e; have := Option.some.inj e; have := HQC.out.mB; omega)))
  have HFF := Lib.hid (futS_grown HFE.out hg5 sq_m)
  have HSF := Lib.hid (Nat.le_trans HSE.out hg5.size)
  have HMF := Lib.hid hm5
  clear u2 HQE HME HOE HFE HSE hm5 hg5
  have u3 := HQF.out.cell (i := 3) rfl
  have u4 := HQF.out.cell (i := 4) rfl
  have e3 := HQF.out.cell (i := 3) rfl
  have f3 := HQF.out.fz 3
  have wnx : IntKind.i64.wrap ((nx : Int) + 1) = (nx : Int) + 1 := by rw [IntKind.wrap_i64]; omega
  obtain ⟨S, hS⟩ : ∃ S : Nat → Bool, S = fun q => q == qb := ⟨_, rfl⟩
  have HSQ := Lib.hid (show S qb = true from by rw [hS]; simp)
  clear hS
  have HQG := Lib.hid (HQF.out.set 3 (.int .i64 ((nx : Int) + 1))).drew
  have HG1 := Lib.hid (show wf.grownBy (wf.setCell ⟨qb, 3, none⟩ (.int .i64 ((nx : Int) + 1))).drew (some qb) from by have h9 := grown_set wf ⟨qb, 3, none⟩ (.int .i64 ((nx : Int) + 1)); exact ⟨h9.os, h9.tape, h9.output, h9.size, h9.block⟩)
  have HG0 := Lib.hid (show FutS S wf.drew (wf.setCell ⟨qb, 3, none⟩ (.int .i64 ((nx : Int) + 1))).drew from FutS.grownS (w := wf.drew) ⟨HG1.out.os, HG1.out.tape, HG1.out.output, HG1.out.size, HG1.out.block⟩ (fun k hk => by cases hk; exact HSQ.out))
  go_wp2_with fail
  refine wp_region_MG (relS S) o_push4 (by kernel_rfl) (by kernel_rfl) (by intro c a d v w h; cases d <;> exact h) ?_; unfold o_push4
  iterate 8 (refine wpS_h rfl rfl (fun K hK => ?_); go_simp; refine hK _ _ ?_; clear hK K)
  refine wpG_two' rfl rfl (fun K hK => ?_) (fun K hK => ?_)
  · go_simp
    refine hK _ _ (.inr (FutS.refl _)) ?_
    clear hK K
    (refine wpS_h rfl rfl (fun K hK => ?_); go_simp; refine hK _ _ ?_; clear hK K)
    refine wpG_o rfl rfl (fun K hK => ?_)
    go_simp
    refine hK _ _ (.inr (FutS.refl _)) ?_
    clear hK K
    iterate 3 (refine wpS_h rfl rfl (fun K hK => ?_); go_simp; refine hK _ _ ?_; clear hK K)
    clear u3 u4
    refine wpG_o rfl rfl (fun K hK => ?_)
    go_simp
    go_at_K
    refine (show K _ (wf.setCell ⟨qb, 3, none⟩ (.int .i64 ((nx : Int) + 1))).drew from hK _ _ (.inr HG0.out) ?_)
    clear hK K e3 f3
    generalize (wf.setCell ⟨qb, 3, none⟩ (.int .i64 ((nx : Int) + 1))).drew = wg at *
    iterate 2 (refine wpS_h rfl rfl (fun K hK => ?_); go_simp; refine hK _ _ ?_; clear hK K)
    refine wpG_o rfl rfl (fun K hK => ?_)
    have e4 := HQG.out.cell (i := 4) rfl
    have f4 := HQG.out.fz 4
    go_simp
    refine (show K _ (wg.setCell ⟨qb, 4, none⟩ (.int .i64 ((nx : Int) + 1))) from hK _ _ (.inr (FutS.grownS (grown_set wg ⟨qb, 4, none⟩ _) (fun k hk => by cases hk; exact HSQ.out))) ?_)
    clear hK K e4 f4
    have HQH := Lib.hid (HQG.out.set 4 (.int .i64 ((nx : Int) + 1)))
    have HG2 := Lib.hid (HG1.out.trans (grown_set wg ⟨qb, 4, none⟩ (.int .i64 ((nx : Int) + 1))))
    generalize wg.setCell ⟨qb, 4, none⟩ (.int .i64 ((nx : Int) + 1)) = wh at *
    clear HQG HG1 HQF
    have HQS := Lib.hid (show QS wh qb mb B (.slice (some ⟨g, 0, none⟩) (m + 1) cap) (upd H m ⟨n, ⟨xc, xs⟩, nx, nx⟩) (m + 1) (nx + 1) from
      ⟨by simpa using HQH.out, HMF.out.of_block (HG2.out.block mb HMF.out.lt (fun e => HQ.out.ne (Option.some.inj e).symm)), World.ownsRow.kept HOF.out HG2.out (.inr (by simp only [Value.ownBlock]; intro e; have := Option.some.inj e; have := HQC.out.qB; omega)), HQC.out.qB, HQC.out.mB, Nat.le_trans HSF.out HG2.out.size, fun i hi => by
        by_cases e : i = m
        · subst e; rw [upd_same]; simp only; omega
        · rw [upd_other _ _ _ _ e]; have := HQC.out.hd i (by omega); omega, by omega, by omega⟩)
    have HFH := Lib.hid (show FutS (SQ qb mb v) w wh from HFF.out.grown HG2.out (fun k hk => .inl (by cases hk; exact sq_q)))
    clear HQH HOF HFF HSF HMF HG2
    refine wpG_nil ?_
    go_wp2_with fail
    refine (up_any HQS.out m (by omega) (HeapOK.push HH.out _)).mono ?_
    rintro r w9 ⟨rfl, ⟨H', hs1, hs2, hs3⟩, hs4⟩
    have HR := Lib.hid (And.intro hs1 (And.intro hs2 (And.intro hs3 hs4)))
    clear hs1 hs2 hs3 hs4
    go_wp2_with fail
    go_ret
    refine ⟨⟨_, rfl⟩, ⟨_, H', HR.out.1, HR.out.2.1, fun c => ?_⟩, HFH.out.then' HR.out.2.2.2 (sq_row HSV2.out)⟩
    rw [HR.out.2.2.1 c]
    exact upd_mem c
  · go_simp
    refine hK _ _ (.inr (FutS.refl _)) ?_
    clear hK K
    (refine wpS_h rfl rfl (fun K hK => ?_); go_simp; refine hK _ _ ?_; clear hK K)
    refine wpG_o rfl rfl (fun K hK => ?_)
    go_simp
    refine hK _ _ (.inr (FutS.refl _)) ?_
    clear hK K
    iterate 3 (refine wpS_h rfl rfl (fun K hK => ?_); go_simp; refine hK _ _ ?_; clear hK K)
    clear u3 u4
    refine wpG_o rfl rfl (fun K hK => ?_)
    go_simp
    go_at_K
    refine (show K _ (wf.setCell ⟨qb, 3, none⟩ (.int .i64 ((nx : Int) + 1))).drew from hK _ _ (.inr HG0.out) ?_)
    clear hK K e3 f3
    generalize (wf.setCell ⟨qb, 3, none⟩ (.int .i64 ((nx : Int) + 1))).drew = wg at *
    iterate 2 (refine wpS_h rfl rfl (fun K hK => ?_); go_simp; refine hK _ _ ?_; clear hK K)
    refine wpG_o rfl rfl (fun K hK => ?_)
    have e4 := HQG.out.cell (i := 4) rfl
    have f4 := HQG.out.fz 4
    go_simp
    refine (show K _ (wg.setCell ⟨qb, 4, none⟩ (.int .i64 ((nx : Int) + 1))) from hK _ _ (.inr (FutS.grownS (grown_set wg ⟨qb, 4, none⟩ _) (fun k hk => by cases hk; exact HSQ.out))) ?_)
    clear hK K e4 f4
    have HQH := Lib.hid (HQG.out.set 4 (.int .i64 ((nx : Int) + 1)))
    have HG2 := Lib.hid (HG1.out.trans (grown_set wg ⟨qb, 4, none⟩ (.int .i64 ((nx : Int) + 1))))
    generalize wg.setCell ⟨qb, 4, none⟩ (.int .i64 ((nx : Int) + 1)) = wh at *
    clear HQG HG1 HQF
    have HQS := Lib.hid (show QS wh qb mb B (.slice (some ⟨g, 0, none⟩) (m + 1) cap) (upd H m ⟨n, ⟨xc, xs⟩, nx, nx⟩) (m + 1) (nx + 1) from
      ⟨by simpa using HQH.out, HMF.out.of_block (HG2.out.block mb HMF.out.lt (fun e => HQ.out.ne (Option.some.inj e).symm)), World.ownsRow.kept HOF.out HG2.out (.inr (by simp only [Value.ownBlock]; intro e; have := Option.some.inj e; have := HQC.out.qB; omega)), HQC.out.qB, HQC.out.mB, Nat.le_trans HSF.out HG2.out.size, fun i hi => by
        by_cases e : i = m
        · subst e; rw [upd_same]; simp only; omega
        · rw [upd_other _ _ _ _ e]; have := HQC.out.hd i (by omega); omega, by omega, by omega⟩)
    have HFH := Lib.hid (show FutS (SQ qb mb v) w wh from HFF.out.grown HG2.out (fun k hk => .inl (by cases hk; exact sq_q)))
    clear HQH HOF HFF HSF HMF HG2
    refine wpG_nil ?_
    go_wp2_with fail
    refine (up_any HQS.out m (by omega) (HeapOK.push HH.out _)).mono ?_
    rintro r w9 ⟨rfl, ⟨H', hs1, hs2, hs3⟩, hs4⟩
    have HR := Lib.hid (And.intro hs1 (And.intro hs2 (And.intro hs3 hs4)))
    clear hs1 hs2 hs3 hs4
    go_wp2_with fail
    go_ret
    refine ⟨⟨_, rfl⟩, ⟨_, H', HR.out.1, HR.out.2.1, fun c => ?_⟩, HFH.out.then' HR.out.2.2.2 (sq_row HSV2.out)⟩
    rw [HR.out.2.2.1 c]
    exact upd_mem c
end Go.Proofs.Ytleapckcihcpaaa
