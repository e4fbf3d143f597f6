/-
  Texts joined: The queue: up, down; The queue: Push, Pop; The queue: Pop; Valid, as the program and as the reference have it; Small; The solver: how it lies in memory; The solver: offer.
-/
import Derived.Test.YtajbmdjlfniofaaDoorBE
import Derived.Test.YtajbmdjlfniofaaDoorBC
/-
  The queue: up, down.
-/
namespace Go.Proofs.YtajbmdjlfniofaaDoor
open Go.RowKit Go.Deep PK
attribute [local go_sem] Oper.lit Oper.litS fut_fut fut_drew World.cell?_alloc_some
/-- the same elements -/
def Same (m : Nat) (H G : Nat → EN) : Prop := ∀ c, (∃ k, k < m ∧ H k = c) ↔ ∃ k, k < m ∧ G k = c
theorem Same.refl (m : Nat) (H : Nat → EN) : Same m H H := fun _ => Iff.rfl
theorem Same.swp {m i j : Nat} {H G : Nat → EN} (h : Same m H G) (hi : i < m) (hj : j < m) : Same m (swp H i j) G := fun c => (swp_mem H hi hj c).trans (h c)
theorem bef_step {a b c : EN} (h1 : bef b a = true) (h2 : bef c a = false) : bef c b = false := bef_wo.tr _ _ _ (bef_wo.asym _ _ h1) h2
theorem bef_both {a b c : EN} (h1 : bef b a = true) (h2 : bef c b = true) : bef c a = true := by
 cases h : bef c a with
 | true => rfl
 | false =>
  have := bef_wo.tr _ _ _ (bef_wo.asym _ _ h1) h
  rw [this] at h2
  cases h2
set_option maxHeartbeats 3200000 in
theorem up_any {w : World} {qb mb B : Nat} {v : Value} {H : Nat → EN} {m nx : Nat} (h : QS w qb mb B v H m nx) (i0 : Nat) (hi : i0 < m) (hu : UpInv bef H m i0) :
  Calls Tryd.prog 58 #[.pointer (some ⟨qb, 0, none⟩), .int .i64 (i0 : Int)] w fun r w' => r = .returned (.tuple #[]) ∧ (∃ H', QS w' qb mb B v H' m nx ∧ HeapOK bef H' m ∧ Same m H' H) ∧ FutS (SQ qb mb v) w w' := by
 have HQ := Lib.hid h
 have HU := Lib.hid hu
 have hmb : m ≤ 100000000000 := by have := h.nx1; have := h.mx; omega
 have HI0 := Lib.hid hi
 clear h hu hi
 go_enter Tryd.func58, Tryd.ntmps58
 go_wp2_with fail
 go_loopw [1] (fun x wr => ∃ (i : Nat) (H' : Nat → EN), i < m ∧ x = .int .i64 i ∧ Hid (QS wr qb mb B v H' m nx ∧ UpInv bef H' m i ∧ Same m H' H) ∧ Hid (FutS (SQ qb mb v) w wr)) (fun x _ => (intOf x).toNat)
 case atStart => exact ⟨i0, H, HI0.out, rfl, Lib.hid ⟨HQ.out, HU.out, Same.refl _ _⟩, Lib.hid (FutS.refl w)⟩
 case round =>
  obtain ⟨i, H', hi, rfl, HI, HF⟩ := hrel
  by_cases hi0 : i = 0
  ·
   subst hi0
   go_wp2_with fail
   go_returns
   exact ⟨rfl, ⟨H', HI.out.1, HI.out.2.1.stop (.inl rfl), HI.out.2.2⟩, HF.out⟩
  ·
   obtain ⟨p, hp⟩ : ∃ p, p = (i - 1) / 2 := ⟨_, rfl⟩
   have HP := Lib.hid hp
   have hpi : p < i := by omega
   have hi1 : 0 < i := by omega
   have hq : Int.tdiv ((i : Int) - 1) 2 = (p : Int) := by rw [show (i : Int) - 1 = ((i - 1 : Nat) : Int) by omega, hp]; exact Int.ofNat_tdiv _ _
   clear hp hi0
   have HBE := Lib.hid (before_any HI.out.1 i p hi (by omega))
   go_wp2_with fail
   refine HBE.out.mono ?_
   rintro r w1 ⟨rfl, hb1⟩
   have hq1 := HI.out.1.go (show Fut wr w1 from hb1)
   have HQ1 := Lib.hid hq1
   have HF1 := Lib.hid (HF.out.then (show Fut wr w1 from hb1))
   clear hq1 hb1
   generalize hbb : bef (H' i) (H' p) = bb
   have HBB := Lib.hid hbb
   clear hbb
   cases bb with
   | true =>
    go_wp2_with fail
    refine (swap_any HQ1.out i p hi (by omega)).mono ?_
    rintro r w2 ⟨rfl, hs1, hs2⟩
    have HS1 := Lib.hid hs1
    have HF2 := Lib.hid (HF1.out.trans hs2)
    clear hs1 hs2
    go_wp2_with fail
    refine ⟨⟨p, swp H' i p, by omega, rfl, Lib.hid ⟨HS1.out, ?_, HI.out.2.2.swp hi (by omega)⟩, HF2⟩, by simp [intOf]; omega⟩
    have h9 := HI.out.2.1.step bef_wo (by omega) hi (by rw [← HP.out]; exact HBB.out)
    rw [← HP.out] at h9
    exact h9
   | false =>
    go_wp2_with fail
    go_returns
    exact ⟨rfl, ⟨H', HQ1.out, HI.out.2.1.stop (.inr (by rw [← HP.out]; exact HBB.out)), HI.out.2.2⟩, HF1.out⟩
set_option maxHeartbeats 6400000 in
theorem down_any {w : World} {qb mb B : Nat} {v : Value} {H : Nat → EN} {m nx : Nat} (h : QS w qb mb B v H m nx) (hd : DownInv bef H m 0) :
  Calls Tryd.prog 50 #[.pointer (some ⟨qb, 0, none⟩), .int .i64 0] w fun r w' => r = .returned (.tuple #[]) ∧ (∃ H', QS w' qb mb B v H' m nx ∧ HeapOK bef H' m ∧ Same m H' H) ∧ FutS (SQ qb mb v) w w' := by
 have HQ := Lib.hid h
 have HD := Lib.hid hd
 have hmb : m ≤ 100000000000 := by have := h.nx1; have := h.mx; omega
 obtain ⟨VA, vc, hv, _⟩ := own_form h.own
 have HV := Lib.hid hv
 clear h hd hv
 go_enter Tryd.func50, Tryd.ntmps50
 go_wp2_with fail
 go_loopw [1] (fun x wr => ∃ (i : Nat) (H' : Nat → EN), (i = 0 ∨ i < m) ∧ x = .int .i64 i ∧ Hid (QS wr qb mb B v H' m nx ∧ DownInv bef H' m i ∧ Same m H' H) ∧ Hid (FutS (SQ qb mb v) w wr)) (fun x _ => m - (intOf x).toNat)
 case atStart => exact ⟨0, H, .inl rfl, rfl, Lib.hid ⟨HQ.out, HD.out, Same.refl _ _⟩, Lib.hid (FutS.refl w)⟩
 case round =>
  obtain ⟨i, H', hi, rfl, HI, HF⟩ := hrel
  have hib : i ≤ 100000000000 := by omega
  go_wp2_with fail
  obtain ⟨wo, rfl⟩ : ∃ x, x = wr := ⟨_, rfl⟩
  go_loopw [4, 5] (fun l k wr => ∃ (lk kk : Nat), l = .int .i64 lk ∧ k = .int .i64 kk ∧ 2 * i + 1 ≤ kk ∧ kk ≤ 2 * i + 3 ∧ (lk = i ∨ lk < m) ∧ Hid (QS wr qb mb B v H' m nx) ∧ Hid (FutS (SQ qb mb v) w wr) ∧ Hid ((lk = i ∨ ((lk - 1) / 2 = i ∧ 0 < lk ∧ bef (H' lk) (H' i) = true)) ∧ ∀ j, 2 * i + 1 ≤ j → j < kk → j < m → bef (H' j) (H' lk) = false)) (fun _ k _ => 2 * i + 3 - (intOf k).toNat)
  case atStart => exact ⟨i, 2 * i + 1, rfl, by first | rfl | (congr 1; omega), Nat.le_refl _, by omega, .inl rfl, Lib.hid HI.out.1, HF, Lib.hid ⟨.inl rfl, fun j h1 h2 => by omega⟩⟩
  case round =>
   obtain ⟨lk, kk, rfl, rfl, hk1, hk2, hlk, HQ1, HF1, HJ⟩ := hrel
   have hkb : kk ≤ 1000000000000 := by omega
   have hq1 := HQ1.out.q.cell (i := 1) rfl
   rw [HV.out] at hq1
   by_cases hc : kk ≤ 2 * i + 2 ∧ kk < m
   ·
    obtain ⟨hc1, hc2⟩ := hc
    have HBE := Lib.hid (before_any HQ1.out kk lk hc2 (by omega))
    go_wp2_with fail
    refine HBE.out.mono ?_
    rintro r w1 ⟨rfl, hb1⟩
    have HQ2 := Lib.hid (HQ1.out.go (show Fut wr w1 from hb1))
    have HF2 := Lib.hid (HF1.out.then (show Fut wr w1 from hb1))
    clear hb1
    generalize hbb : bef (H' kk) (H' lk) = bb
    have HBB := Lib.hid hbb
    clear hbb
    cases bb with
    | true =>
     go_wp2_with fail
     refine ⟨⟨kk, kk + 1, rfl, by go_num, by omega, by omega, .inr hc2, HQ2, HF2, Lib.hid ⟨.inr ⟨by omega, by omega, ?_⟩, fun j h1 h2 h3 => ?_⟩⟩, by simp [intOf]; omega⟩
     ·
      rcases HJ.out.1 with h9 | ⟨_, _, h9⟩
      ·
       have := HBB.out; rw [h9] at this; exact this
      ·
       exact bef_both h9 HBB.out
     ·
      by_cases e : j = kk
      ·
       subst e; exact bef_wo.irr _
      ·
       exact bef_step HBB.out (HJ.out.2 j h1 (by omega) h3)
    | false =>
     go_wp2_with fail
     refine ⟨⟨lk, kk + 1, rfl, by go_num, by omega, by omega, hlk, HQ2, HF2, Lib.hid ⟨HJ.out.1, fun j h1 h2 h3 => ?_⟩⟩, by simp [intOf]; omega⟩
     by_cases e : j = kk
     ·
      subst e; exact HBB.out
     ·
      exact HJ.out.2 j h1 (by omega) h3
   ·
    have hall : ∀ j, 0 < j → j < m → (j - 1) / 2 = i → bef (H' j) (H' lk) = false := fun j h1 h2 h3 => HJ.out.2 j (by omega) (by omega) h2
    have HALL := Lib.hid hall
    clear hall
    have hcc : (kk ≤ 2 * i + 2 ∧ m ≤ kk) ∨ 2 * i + 2 < kk := by omega
    clear hc
    by_cases hli : lk = i
    ·
     subst hli
     rcases hcc with ⟨hc1, hc2⟩ | hc1
     all_goals
      go_wp2_with fail
      go_returns
      exact ⟨rfl, ⟨H', HQ1.out, HI.out.2.1.stop HALL.out, HI.out.2.2⟩, HF1.out⟩
    ·
     have HLI := Lib.hid hli
     have hl2 : (((lk : Nat) : Int) = (i : Int)) = False := eq_false (by omega)
     have hl3 : (((lk : Nat) : Int) == (i : Int)) = false := by simp; omega
     have hlm : lk < m := by omega
     have hjj : (lk - 1) / 2 = i ∧ 0 < lk ∧ bef (H' lk) (H' i) = true := HJ.out.1.resolve_left hli
     have HJJ := Lib.hid hjj
     clear hli hjj
     have him : i < m := by have := HJJ.out.1; have := HJJ.out.2.1; omega
     rcases hcc with ⟨hc1, hc2⟩ | hc1
     all_goals
      go_wp2_with fail
      refine (swap_any HQ1.out i lk him hlm).mono ?_
      rintro r w2 ⟨rfl, hs1, hs2⟩
      have HS1 := Lib.hid hs1
      have HF2 := Lib.hid (HF1.out.trans hs2)
      clear hs1 hs2
      go_wp2_with fail
      refine ⟨⟨lk, swp H' i lk, .inr hlm, rfl, Lib.hid ⟨HS1.out, HI.out.2.1.step bef_wo HJJ.out.2.1 hlm HJJ.out.1 HJJ.out.2.2 HALL.out, HI.out.2.2.swp him hlm⟩, HF2⟩, by have := HJJ.out.1; have := HJJ.out.2.1; simp [intOf]; omega⟩
end Go.Proofs.YtajbmdjlfniofaaDoor
/-
  The queue: Push, Pop.
-/
namespace Go.Proofs.YtajbmdjlfniofaaDoor
open Go.RowKit Go.Deep PK
attribute [local go_sem] Oper.lit Oper.litS fut_fut fut_drew World.cell?_alloc_some
attribute [local go_sem] World.frozen?_setCell
theorem info_en : (Tryd.prog.info? 105).map (fun i => (i.zero, i.size, i.bytes)) = some (some (.agg #[.int .i64 0, .int .i64 0, .int .i64 0, .int .i64 0, .int .i64 0]), 5, 40) := by kernel_rfl
theorem res_cell2 {P : Program} {fn : Func} {p q : Tmp} {ty : TypeId} (h : fn.results = #[.cell p ty, .tmp q]) (tmps : Array Value) (w : World) (g : Nat) (t : TypeId) (cs : Array Value) (fr : Nat × Nat) (d : TypeDesc)
  (hp : tmps.getD p undef = .pointer (some ⟨g, 0, none⟩)) (hg : w.heap[g]? = some (.cells cs t fr))
  (hu : P.underlying ty = some d) (hd : (match d with | .struct _ | .array _ _ => true | _ => false) = true) (hi : (P.info? ty).map (·.size) = some cs.size) :
  (results fn tmps).run P w = .ok (.tuple #[.agg cs, tmps.getD q undef]) w := by
 have hp' : tmps[p]?.getD undef = .pointer (some ⟨g, 0, none⟩) := by simpa using hp
 simp [results, h, hp', asAddr, run_loadVar_row w g t ty cs fr d hg hu hd hi]
/-- an order for Push's region 4: the loads where they stand -/
def o_push4 : Sched := .hoist 0 (.hoist 1 (.hoist 2 (.hoist 3 (.hoist 4 (.hoist 7 (.hoist 8 (.hoist 9 (.two 5 (.hoist 6 (.one 10 (.hoist 11 (.hoist 12 (.hoist 13 (.one 14 (.hoist 15 (.hoist 16 (.one 17 .done)))))))))
 10 (.hoist 11 (.one 5 (.hoist 6 (.hoist 12 (.hoist 13 (.one 14 (.hoist 15 (.hoist 16 (.one 17 .done))))))))))))))))) 
theorem pop_res : Tryd.f41.results = #[.cell 2 78, .tmp 3] := by kernel_rfl
theorem FutS.then' {S T : Nat → Bool} {a b c : World} (h : FutS S a b) (k : FutS T b c) (hST : ∀ k, k < a.heap.size → T k = true → S k = true) : FutS S a c :=
 ⟨k.os.trans h.os, k.tape.trans h.tape, k.output.trans h.output, Nat.le_trans h.size k.size, fun i hi hs => (k.block i (Nat.lt_of_lt_of_le hi h.size) (by
  cases e : T i with
  | false => rfl
  | true => rw [hST i hi e] at hs; cases hs)).trans (h.block i hi hs)⟩
/-- the heap's row is the same or a new one -/
theorem sq_row {qb mb g m cap : Nat} {v : Value} {w : World} (h : v.ownBlock = some g ∨ w.heap.size ≤ g) : ∀ k, k < w.heap.size → SQ qb mb (.slice (some ⟨g, 0, none⟩) m cap) k = true → SQ qb mb v k = true := by
 intro k hk hs
 simp only [SQ, Value.ownBlock, Bool.or_eq_true, beq_iff_eq, Option.some.injEq] at hs ⊢
 rcases hs with hs | hs
 ·
  exact .inl hs
 ·
  subst hs
  rcases h with h | h
  ·
   exact .inr h
  ·
   omega
theorem upd_mem {m : Nat} {H : Nat → EN} {e : EN} (c : EN) : (∃ k, k < m + 1 ∧ upd H m e k = c) ↔ c = e ∨ ∃ k, k < m ∧ H k = c := by
 constructor
 ·
  rintro ⟨k, hk, h⟩
  by_cases e1 : k = m
  ·
   subst e1; rw [upd_same] at h; exact .inl h.symm
  ·
   rw [upd_other _ _ _ _ e1] at h; exact .inr ⟨k, by omega, h⟩
 ·
  rintro (h | ⟨k, hk, h⟩)
  ·
   exact ⟨m, by omega, by rw [upd_same]; exact h.symm⟩
  ·
   exact ⟨k, by omega, by rw [upd_other _ _ _ _ (by omega)]; exact h⟩
set_option maxHeartbeats 6400000 in
theorem push_any {w : World} {qb mb B : Nat} {v : Value} {H : Nat → EN} {m nx : Nat} (h : QS w qb mb B v H m nx) (hh : HeapOK bef H m) (hnx : nx < 100000000000) (n : Nat) (x : VV) :
  Calls Tryd.prog 48 #[.pointer (some ⟨qb, 0, none⟩), cv (n : Int) x] w fun r w' => (∃ u, r = .returned u) ∧ (∃ v' H', QS w' qb mb B v' H' (m + 1) (nx + 1) ∧ HeapOK bef H' (m + 1) ∧ (∀ c, (∃ k, k < m + 1 ∧ H' k = c) ↔ c = ⟨n, x, nx, nx⟩ ∨ ∃ k, k < m ∧ H k = c)) ∧ FutS (SQ qb mb v) w w' := by
 obtain ⟨xc, xs⟩ := x
 have HQ := Lib.hid h
 have HH := Lib.hid hh
 have hmx : m ≤ nx := h.mx
 obtain ⟨VA, vc, hv, _⟩ := own_form h.own
 have HV := Lib.hid hv
 have HF0 := Lib.hid (show Fut w (w.alloc (.cells #[.int .i64 (n : Int), .int .i64 xc, .int .i64 xs] 78)) from (Fut.refl w).alloc _)
 have HQ0 := Lib.hid (h.go HF0.out)
 have HB0 := Lib.hid (show Blk (w.alloc (.cells #[.int .i64 (n : Int), .int .i64 xc, .int .i64 xs] 78)) w.heap.size 78 #[.int .i64 (n : Int), .int .i64 xc, .int .i64 xs] from Blk.new w _ _)
 have x0 := cell_fut (HQ0.out.q.cell (i := 1) rfl)
 rw [hv] at x0
 have x1 := cell_fut (HQ0.out.q.cell (i := 3) rfl)
 clear h hh hv
 go_enter Tryd.func48, Tryd.ntmps48
 go_wp2_with fail
 generalize w.alloc (.cells #[.int .i64 (n : Int), .int .i64 xc, .int .i64 xs] 78) = wa at *
 obtain ⟨xb, hxb⟩ : ∃ q, q = w.heap.size := ⟨_, rfl⟩
 rw [← hxb] at HB0 ⊢
 have HXB := Lib.hid hxb
 clear hxb
 refine wp_region_M o_pqueue_Queue_knuth_candidate_Push_1 (by kernel_rfl) (by kernel_rfl) (by intro c a d v w h; cases d <;> exact h) ?_; unfold o_pqueue_Queue_knuth_candidate_Push_1
 iterate 11 (refine wpF_h rfl rfl (fun K hK => ?_); go_simp; refine hK _ _ ?_; clear hK K)
 refine wpF_nil ?_
 clear x0 x1
 replace HQ0 := Lib.hid (show QS wa.drew qb mb B v H m nx from HQ0.out.go (Fut.refl wa).drew)
 replace HB0 := Lib.hid (show Blk wa.drew xb 78 #[.int .i64 (n : Int), .int .i64 xc, .int .i64 xs] from HB0.out.drew)
 replace HF0 := Lib.hid (show Fut w wa.drew from HF0.out.drew)
 generalize wa.drew = wa at *
 go_wp2_with fail
 obtain ⟨S, hS⟩ : ∃ S : Nat → Bool, S = fun q => v.ownBlock == some q := ⟨_, rfl⟩
 have hlt9 := fun k hk => (World.ownsRow.lt HQ0.out.own k hk)
 have hSB : ∀ k, k < B → S k = false := fun k hk => by
  rw [hS]
  cases e : (v.ownBlock == some k) with
  | false => exact e
  | true => have := (hlt9 k (by simpa using e)).1; omega
 have hSX : S xb = false := by
  rw [hS]
  cases e : (v.ownBlock == some xb) with
  | false => exact e
  | true =>
   have := (World.ownsRow.lt HQ.out.own xb (by simpa using e)).2
   have := HXB.out
   omega
 have HSV := Lib.hid (show ∀ k, v.ownBlock = some k → S k = true from fun k hk => by rw [hS]; simp [hk])
 have x0 : ∀ f d o, (futS wa S f d o).cell? ⟨qb, 1, none⟩ = some (.slice VA m vc) := cell_futS (by rw [← HV.out]; exact HQ0.out.q.cell (i := 1) rfl) (hSB _ HQ0.out.qB)
 have x1 := cell_futS (HQ0.out.q.cell (i := 4) rfl) (hSB _ HQ0.out.qB)
 have y0 := cell_futS (HB0.out.cell (i := 0) rfl) hSX
 have y1 := cell_futS (HB0.out.cell (i := 1) rfl) hSX
 have y2 := cell_futS (HB0.out.cell (i := 2) rfl) hSX
 clear hlt9 hSB hSX hS
 refine wp_region_MG (relS S) o_pqueue_Queue_knuth_candidate_Push_2 (by kernel_rfl) (by kernel_rfl) (by intro c a d v w h; cases d <;> exact h) ?_; unfold o_pqueue_Queue_knuth_candidate_Push_2
 iterate 12 (refine wpS_h rfl rfl (fun K hK => ?_); go_simp; refine hK _ _ ?_; clear hK K)
 refine wpG_o rfl rfl (fun K hK => ?_)
 go_simp
 go_at_K
 refine hK _ _ (.inr ((relS S).of_fut ((Fut.refl _).alloc _))) ?_
 clear hK K x0 x1 y0 y1 y2
 obtain ⟨wc, hwc⟩ : ∃ wc, wc = (wa.alloc (.cells #[.int .i64 (n : Int), .int .i64 xc, .int .i64 xs, .int .i64 (nx : Int), .int .i64 (nx : Int)] 105)).drew := ⟨_, rfl⟩
 have HQC := Lib.hid (show QS wc qb mb B v H m nx from by rw [hwc]; exact HQ0.out.go ((Fut.refl wa).alloc _).drew)
 have HNB := Lib.hid (show wc.heap[wa.heap.size]? = some (.cells #[.int .i64 (n : Int), .int .i64 xc, .int .i64 xs, .int .i64 (nx : Int), .int .i64 (nx : Int)] 105 (0, 0)) from by rw [hwc]; exact heap_new' _ _ _ rfl)
 have HFC := Lib.hid (show Fut w wc from by rw [hwc]; exact HF0.out.trans ((Fut.refl wa).alloc _).drew)
 rw [show (wa.alloc (.cells #[.int .i64 (n : Int), .int .i64 xc, .int .i64 xs, .int .i64 (nx : Int), .int .i64 (nx : Int)] 105)).drew = wc from hwc.symm]
 clear hwc
 refine wpG_o rfl rfl (fun K hK => ?_)
 refine wp_push 99 105 5 40 _ Tryd.underlying99 info_en rfl (by decide) (by decide) (.tmp 20) (.tmp 28) rfl B (.slice VA m vc) m (entL H m) rfl (by rw [← HV.out]; exact HQC.out.own) wa.heap.size [.int .i64 (n : Int), .int .i64 xc, .int .i64 xs, .int .i64 (nx : Int), .int .i64 (nx : Int)] rfl HNB.out rfl (by simp [Value.oneCell']) (by omega) HQC.out.sz ?_
 intro g cap wd h1 h2 h3
 rw [← HV.out] at h2 h3
 have HSV2 := Lib.hid (show v.ownBlock = some g ∨ w.heap.size ≤ g from h3.imp id (fun e => by rw [e]; exact HFC.out.size))
 refine hK _ _ (.inr ((FutS.refl _).grown h2 (fun k hk => .inl (HSV.out k hk)))) ?_
 clear hK K
 have HOD := Lib.hid (show OwnN wd B (.slice (some ⟨g, 0, none⟩) (m + 1) cap) (upd H m ⟨n, ⟨xc, xs⟩, nx, nx⟩) (m + 1) from by
  show wd.ownsRow B 105 5 _ _ _
  rw [entL_succ]
  exact h1)
 have hltv : ∀ k, v.ownBlock = some k → B ≤ k := fun k hk => (World.ownsRow.lt HQC.out.own k hk).1
 have hnev : ∀ b, b < B → some b ≠ v.ownBlock := fun b hb e => by have := hltv b e.symm; omega
 have HQB := Lib.hid (show Blk wd qb 101 #[fless, v, .map (some mb), .int .i64 (nx : Int), .int .i64 (nx : Int)] from HQC.out.q.grown h2 (hnev _ HQC.out.qB))
 have HMB := Lib.hid (show MPi wd mb from HQC.out.mp.of_block (h2.block mb HQC.out.mp.lt (hnev _ HQC.out.mB)))
 have HFD := Lib.hid (show FutS (SQ qb mb v) w wd from (FutS.of HFC.out).grown h2 (fun k hk => .inl (by simp [SQ, hk])))
 have HSZ := Lib.hid (show B ≤ wd.heap.size from Nat.le_trans HQC.out.sz h2.size)
 clear h1 h2 h3 hltv hnev
 iterate 2 (refine wpS_h rfl rfl (fun K hK => ?_); go_simp; refine hK _ _ ?_; clear hK K)
 refine wpG_ol rfl (by kernel_rfl) rfl (fun K hK => ?_)
 have u1 := HQB.out.cell (i := 1) rfl
 have f1 := HQB.out.fz 1
 go_simp
 refine hK _ _ ?_
 clear hK K u1 f1
 have hgB : B ≤ g := ((World.ownsRow.lt HOD.out) g rfl).1
 have HQE := Lib.hid (show Blk (wd.setCell ⟨qb, 1, none⟩ (.slice (some ⟨g, 0, none⟩) (m + 1) cap)) qb 101 #[fless, .slice (some ⟨g, 0, none⟩) (m + 1) cap, .map (some mb), .int .i64 (nx : Int), .int .i64 (nx : Int)] from HQB.out.set 1 _)
 have HME := Lib.hid (show MPi (wd.setCell ⟨qb, 1, none⟩ (.slice (some ⟨g, 0, none⟩) (m + 1) cap)) mb from HMB.out.setCell (Ne.symm HQ.out.ne) _)
 have HOE := Lib.hid (show OwnN (wd.setCell ⟨qb, 1, none⟩ (.slice (some ⟨g, 0, none⟩) (m + 1) cap)) B (.slice (some ⟨g, 0, none⟩) (m + 1) cap) (upd H m ⟨n, ⟨xc, xs⟩, nx, nx⟩) (m + 1) from World.ownsRow.kept HOD.out (grown_set wd ⟨qb, 1, none⟩ _) (.inr (by simp only [Value.ownBlock]; intro e; have := Option.some.inj e; have := HQC.out.qB; omega)))
 have HFE := Lib.hid (show FutS (SQ qb mb v) w (wd.setCell ⟨qb, 1, none⟩ (.slice (some ⟨g, 0, none⟩) (m + 1) cap)) from HFD.out.setCell (a := ⟨qb, 1, none⟩) (.inl sq_q) _)
 have HSE := Lib.hid (show B ≤ (wd.setCell ⟨qb, 1, none⟩ (.slice (some ⟨g, 0, none⟩) (m + 1) cap)).heap.size from by rw [World.size_setCell]; exact HSZ.out)
 generalize wd.setCell ⟨qb, 1, none⟩ (.slice (some ⟨g, 0, none⟩) (m + 1) cap) = we at *
 clear HQB HMB HOD HFD HSZ
 refine wpG_nil ?_
 have u2 := HQE.out.cell (i := 2) rfl
 go_wp2_with (at_mapUpdate; refine wpList_mput rfl (.tmp 35) (.tmp 36) (.tmp 37) rfl rfl (b := mb) HME.out nx rfl (by omega) (by omega) ?_; intro wf hm5 hg5)
 have HQF := Lib.hid (HQE.out.grown hg5 (fun e => HQ.out.ne (Option.some.inj e)))
 have HOF := Lib.hid (show OwnN wf B (.slice (some ⟨g, 0, none⟩) (m + 1) cap) (upd H m ⟨n, ⟨xc, xs⟩, nx, nx⟩) (m + 1) from World.ownsRow.kept HOE.out hg5 (.inr (by simp only [Value.ownBlock]; intro e; have := Option.some.inj e; have := HQC.out.mB; omega)))
 have HFF := Lib.hid (futS_grown HFE.out hg5 sq_m)
 have HSF := Lib.hid (Nat.le_trans HSE.out hg5.size)
 have HMF := Lib.hid hm5
 clear u2 HQE HME HOE HFE HSE hm5 hg5
 have u3 := HQF.out.cell (i := 3) rfl
 have u4 := HQF.out.cell (i := 4) rfl
 have e3 := HQF.out.cell (i := 3) rfl
 have f3 := HQF.out.fz 3
 have wnx : IntKind.i64.wrap ((nx : Int) + 1) = (nx : Int) + 1 := by rw [IntKind.wrap_i64]; omega
 obtain ⟨S, hS⟩ : ∃ S : Nat → Bool, S = fun q => q == qb := ⟨_, rfl⟩
 have HSQ := Lib.hid (show S qb = true from by rw [hS]; simp)
 clear hS
 have HQG := Lib.hid (HQF.out.set 3 (.int .i64 ((nx : Int) + 1))).drew
 have HG1 := Lib.hid (show wf.grownBy (wf.setCell ⟨qb, 3, none⟩ (.int .i64 ((nx : Int) + 1))).drew (some qb) from by have h9 := grown_set wf ⟨qb, 3, none⟩ (.int .i64 ((nx : Int) + 1)); exact ⟨h9.os, h9.tape, h9.output, h9.size, h9.block⟩)
 have HG0 := Lib.hid (show FutS S wf.drew (wf.setCell ⟨qb, 3, none⟩ (.int .i64 ((nx : Int) + 1))).drew from FutS.grownS (w := wf.drew) ⟨HG1.out.os, HG1.out.tape, HG1.out.output, HG1.out.size, HG1.out.block⟩ (fun k hk => by cases hk; exact HSQ.out))
 go_wp2_with fail
 refine wp_region_MG (relS S) o_push4 (by kernel_rfl) (by kernel_rfl) (by intro c a d v w h; cases d <;> exact h) ?_; unfold o_push4
 iterate 8 (refine wpS_h rfl rfl (fun K hK => ?_); go_simp; refine hK _ _ ?_; clear hK K)
 refine wpG_two' rfl rfl (fun K hK => ?_) (fun K hK => ?_)
 ·
  go_simp
  refine hK _ _ (.inr (FutS.refl _)) ?_
  clear hK K
  (refine wpS_h rfl rfl (fun K hK => ?_); go_simp; refine hK _ _ ?_; clear hK K)
  refine wpG_o rfl rfl (fun K hK => ?_)
  go_simp
  refine hK _ _ (.inr (FutS.refl _)) ?_
  clear hK K
  iterate 3 (refine wpS_h rfl rfl (fun K hK => ?_); go_simp; refine hK _ _ ?_; clear hK K)
  clear u3 u4
  refine wpG_o rfl rfl (fun K hK => ?_)
  go_simp
  go_at_K
  refine (show K _ (wf.setCell ⟨qb, 3, none⟩ (.int .i64 ((nx : Int) + 1))).drew from hK _ _ (.inr HG0.out) ?_)
  clear hK K e3 f3
  generalize (wf.setCell ⟨qb, 3, none⟩ (.int .i64 ((nx : Int) + 1))).drew = wg at *
  iterate 2 (refine wpS_h rfl rfl (fun K hK => ?_); go_simp; refine hK _ _ ?_; clear hK K)
  refine wpG_o rfl rfl (fun K hK => ?_)
  have e4 := HQG.out.cell (i := 4) rfl
  have f4 := HQG.out.fz 4
  go_simp
  refine (show K _ (wg.setCell ⟨qb, 4, none⟩ (.int .i64 ((nx : Int) + 1))) from hK _ _ (.inr (FutS.grownS (grown_set wg ⟨qb, 4, none⟩ _) (fun k hk => by cases hk; exact HSQ.out))) ?_)
  clear hK K e4 f4
  have HQH := Lib.hid (HQG.out.set 4 (.int .i64 ((nx : Int) + 1)))
  have HG2 := Lib.hid (HG1.out.trans (grown_set wg ⟨qb, 4, none⟩ (.int .i64 ((nx : Int) + 1))))
  generalize wg.setCell ⟨qb, 4, none⟩ (.int .i64 ((nx : Int) + 1)) = wh at *
  clear HQG HG1 HQF
  have HQS := Lib.hid (show QS wh qb mb B (.slice (some ⟨g, 0, none⟩) (m + 1) cap) (upd H m ⟨n, ⟨xc, xs⟩, nx, nx⟩) (m + 1) (nx + 1) from
   ⟨by simpa using HQH.out, HMF.out.of_block (HG2.out.block mb HMF.out.lt (fun e => HQ.out.ne (Option.some.inj e).symm)), World.ownsRow.kept HOF.out HG2.out (.inr (by simp only [Value.ownBlock]; intro e; have := Option.some.inj e; have := HQC.out.qB; omega)), HQC.out.qB, HQC.out.mB, Nat.le_trans HSF.out HG2.out.size, fun i hi => by
    by_cases e : i = m
    ·
     subst e; rw [upd_same]; simp only; omega
    ·
     rw [upd_other _ _ _ _ e]; have := HQC.out.hd i (by omega); omega, by omega, by omega⟩)
  have HFH := Lib.hid (show FutS (SQ qb mb v) w wh from HFF.out.grown HG2.out (fun k hk => .inl (by cases hk; exact sq_q)))
  clear HQH HOF HFF HSF HMF HG2
  refine wpG_nil ?_
  go_wp2_with fail
  refine (up_any HQS.out m (by omega) (HeapOK.push HH.out _)).mono ?_
  rintro r w9 ⟨rfl, ⟨H', hs1, hs2, hs3⟩, hs4⟩
  have HR := Lib.hid (And.intro hs1 (And.intro hs2 (And.intro hs3 hs4)))
  clear hs1 hs2 hs3 hs4
  go_wp2_with fail
  go_ret
  refine ⟨⟨_, rfl⟩, ⟨_, H', HR.out.1, HR.out.2.1, fun c => ?_⟩, HFH.out.then' HR.out.2.2.2 (sq_row HSV2.out)⟩
  rw [HR.out.2.2.1 c]
  exact upd_mem c
 ·
  go_simp
  refine hK _ _ (.inr (FutS.refl _)) ?_
  clear hK K
  (refine wpS_h rfl rfl (fun K hK => ?_); go_simp; refine hK _ _ ?_; clear hK K)
  refine wpG_o rfl rfl (fun K hK => ?_)
  go_simp
  refine hK _ _ (.inr (FutS.refl _)) ?_
  clear hK K
  iterate 3 (refine wpS_h rfl rfl (fun K hK => ?_); go_simp; refine hK _ _ ?_; clear hK K)
  clear u3 u4
  refine wpG_o rfl rfl (fun K hK => ?_)
  go_simp
  go_at_K
  refine (show K _ (wf.setCell ⟨qb, 3, none⟩ (.int .i64 ((nx : Int) + 1))).drew from hK _ _ (.inr HG0.out) ?_)
  clear hK K e3 f3
  generalize (wf.setCell ⟨qb, 3, none⟩ (.int .i64 ((nx : Int) + 1))).drew = wg at *
  iterate 2 (refine wpS_h rfl rfl (fun K hK => ?_); go_simp; refine hK _ _ ?_; clear hK K)
  refine wpG_o rfl rfl (fun K hK => ?_)
  have e4 := HQG.out.cell (i := 4) rfl
  have f4 := HQG.out.fz 4
  go_simp
  refine (show K _ (wg.setCell ⟨qb, 4, none⟩ (.int .i64 ((nx : Int) + 1))) from hK _ _ (.inr (FutS.grownS (grown_set wg ⟨qb, 4, none⟩ _) (fun k hk => by cases hk; exact HSQ.out))) ?_)
  clear hK K e4 f4
  have HQH := Lib.hid (HQG.out.set 4 (.int .i64 ((nx : Int) + 1)))
  have HG2 := Lib.hid (HG1.out.trans (grown_set wg ⟨qb, 4, none⟩ (.int .i64 ((nx : Int) + 1))))
  generalize wg.setCell ⟨qb, 4, none⟩ (.int .i64 ((nx : Int) + 1)) = wh at *
  clear HQG HG1 HQF
  have HQS := Lib.hid (show QS wh qb mb B (.slice (some ⟨g, 0, none⟩) (m + 1) cap) (upd H m ⟨n, ⟨xc, xs⟩, nx, nx⟩) (m + 1) (nx + 1) from
   ⟨by simpa using HQH.out, HMF.out.of_block (HG2.out.block mb HMF.out.lt (fun e => HQ.out.ne (Option.some.inj e).symm)), World.ownsRow.kept HOF.out HG2.out (.inr (by simp only [Value.ownBlock]; intro e; have := Option.some.inj e; have := HQC.out.qB; omega)), HQC.out.qB, HQC.out.mB, Nat.le_trans HSF.out HG2.out.size, fun i hi => by
    by_cases e : i = m
    ·
     subst e; rw [upd_same]; simp only; omega
    ·
     rw [upd_other _ _ _ _ e]; have := HQC.out.hd i (by omega); omega, by omega, by omega⟩)
  have HFH := Lib.hid (show FutS (SQ qb mb v) w wh from HFF.out.grown HG2.out (fun k hk => .inl (by cases hk; exact sq_q)))
  clear HQH HOF HFF HSF HMF HG2
  refine wpG_nil ?_
  go_wp2_with fail
  refine (up_any HQS.out m (by omega) (HeapOK.push HH.out _)).mono ?_
  rintro r w9 ⟨rfl, ⟨H', hs1, hs2, hs3⟩, hs4⟩
  have HR := Lib.hid (And.intro hs1 (And.intro hs2 (And.intro hs3 hs4)))
  clear hs1 hs2 hs3 hs4
  go_wp2_with fail
  go_ret
  refine ⟨⟨_, rfl⟩, ⟨_, H', HR.out.1, HR.out.2.1, fun c => ?_⟩, HFH.out.then' HR.out.2.2.2 (sq_row HSV2.out)⟩
  rw [HR.out.2.2.1 c]
  exact upd_mem c
end Go.Proofs.YtajbmdjlfniofaaDoor
/-
  The queue: Pop.
-/
namespace Go.Proofs.YtajbmdjlfniofaaDoor
open Go.RowKit Go.Deep PK
attribute [local go_sem] Oper.lit Oper.litS fut_fut fut_drew World.cell?_alloc_some
attribute [local go_sem] World.frozen?_setCell
theorem QS.setOther {w : World} {qb mb B : Nat} {v : Value} {H : Nat → EN} {m nx : Nat} (h : QS w qb mb B v H m nx) {a : Addr} (ha : ∀ k, SQ qb mb v k = true → k ≠ a.block) (u : Value) : QS (w.setCell a u) qb mb B v H m nx := by
 refine ⟨h.q.setOther (ha _ sq_q) u, h.mp.setCell (ha _ sq_m) u, World.ownsRow.kept h.own (grown_set w a u) ?_, h.qB, h.mB, by rw [World.size_setCell]; exact h.sz, h.hd, h.nx1, h.mx⟩
 cases hv : v.ownBlock with
 | none => exact .inl rfl
 | some k =>
  right
  intro e
  exact ha k (by simp [SQ, hv]) (Option.some.inj e)
set_option maxHeartbeats 6400000 in
theorem pop_any {w : World} {qb mb B : Nat} {v : Value} {H : Nat → EN} {m nx : Nat} (h : QS w qb mb B v H m nx) (hh : HeapOK bef H m) :
  Calls Tryd.prog 41 #[.pointer (some ⟨qb, 0, none⟩)] w fun r w' => ((m = 0 ∧ r = .returned (.tuple #[cv 0 ⟨0, 0⟩, .bool false]) ∧ QS w' qb mb B v H m nx) ∨
   (0 < m ∧ r = .returned (.tuple #[cv ((H 0).n : Int) (H 0).v, .bool true]) ∧ ∃ v' H', QS w' qb mb B v' H' (m - 1) nx ∧ HeapOK bef H' (m - 1) ∧ (∀ c, (∃ k, k < m ∧ H k = c) ↔ c = H 0 ∨ ∃ k, k < m - 1 ∧ H' k = c) ∧ v'.ownBlock = v.ownBlock)) ∧ FutS (SQ qb mb v) w w' := by
 have HQ := Lib.hid h
 have HH := Lib.hid hh
 have hmx : m ≤ nx := h.mx
 have hnx1 : nx ≤ 100000000000 := h.nx1
 have HF0 := Lib.hid (show Fut w (w.alloc (.cells #[.int .i64 0, .int .i64 0, .int .i64 0] 78)) from (Fut.refl w).alloc _)
 have HQ0 := Lib.hid (h.go HF0.out)
 have HR0 := Lib.hid (show Blk (w.alloc (.cells #[.int .i64 0, .int .i64 0, .int .i64 0] 78)) w.heap.size 78 #[.int .i64 0, .int .i64 0, .int .i64 0] from Blk.new w _ _)
 have HRL := Lib.hid (show w.heap.size ≤ w.heap.size from Nat.le_refl _)
 obtain ⟨rb, hrb⟩ : ∃ q, q = w.heap.size := ⟨_, rfl⟩
 have HRB := Lib.hid hrb
 clear h hh HRL
 by_cases hm : m = 0
 ·
  subst hm
  obtain ⟨VA, vc, hv, _⟩ := own_form HQ0.out.own
  have x0 := HQ0.out.q.cell (i := 1) rfl
  rw [hv] at x0
  clear hv
  go_enter Tryd.func41, Tryd.ntmps41
  go_wp2_with fail
  generalize w.alloc (.cells #[.int .i64 0, .int .i64 0, .int .i64 0] 78) = wa at *
  rw [← HRB.out] at HR0 ⊢
  clear hrb x0
  refine bodyPost_ret (res_cell2 pop_res _ _ rb _ _ _ _ rfl (HR0.out.alloc _) Tryd.underlying78 rfl (by kernel_rfl)) rfl ?_
  exact ⟨⟨rfl, HQ0.out.go ((Fut.refl wa).alloc _)⟩, FutS.of (HF0.out.alloc _)⟩
 ·
  obtain ⟨l, hl⟩ : ∃ l, m = l + 1 := ⟨m - 1, by omega⟩
  have hlm : (m : Int) - 1 = (l : Int) := by omega
  have HLM := Lib.hid hl
  have hm0 : 0 < m := by omega
  have wlm : IntKind.i64.wrap ((m : Int) - 1) = (l : Int) := by rw [IntKind.wrap_i64]; omega
  have hlb : l ≤ 100000000000 := by omega
  have hm9 : m - 1 = l := by omega
  obtain ⟨g, cap, rfl, hBg, hgl, hmc, hcap⟩ := HQ.out.own.form (by omega)
  have HBG := Lib.hid hBg
  have klc : l ≤ cap := by omega
  have wl2 : IntKind.i64.wrap (l : Int) = (l : Int) := by rw [IntKind.wrap_i64]; omega
  have x0 := HQ0.out.q.cell (i := 1) rfl
  obtain ⟨a0, a1, a2, a3, a4⟩ := HQ0.out.own.at (i := 0) (by omega)
  simp only [Nat.zero_mul, Nat.zero_add] at a0 a1 a2 a3 a4
  obtain ⟨en, hen⟩ : ∃ z, z = ((H 0).n : Int) := ⟨_, rfl⟩
  obtain ⟨ec, hec⟩ : ∃ z, z = (H 0).v.c := ⟨_, rfl⟩
  obtain ⟨e2, he2⟩ : ∃ z, z = (H 0).v.s := ⟨_, rfl⟩
  obtain ⟨eh, heh⟩ : ∃ z, z = (H 0).hd := ⟨_, rfl⟩
  obtain ⟨et, het⟩ : ∃ z, z = (H 0).tm := ⟨_, rfl⟩
  rw [← hen] at a0
  rw [← hec] at a1
  rw [← he2] at a2
  rw [← heh] at a3
  rw [← het] at a4
  have HEV := Lib.hid (And.intro hen (And.intro hec he2))
  have HEH := Lib.hid (show 0 ≤ eh ∧ eh ≤ 1000000000000 from by have := HQ.out.hd 0 (by omega); rw [heh]; omega)
  clear hen hec he2 heh het hl hBg hgl hmc hcap
  go_enter Tryd.func41, Tryd.ntmps41
  go_wp2_with fail
  generalize w.alloc (.cells #[.int .i64 0, .int .i64 0, .int .i64 0] 78) = wa at *
  rw [← HRB.out] at HR0 ⊢
  clear hrb
  obtain ⟨S, hS⟩ : ∃ S : Nat → Bool, S = fun q => decide (wa.heap.size ≤ q) := ⟨_, rfl⟩
  have hSl : ∀ q, q < wa.heap.size → S q = false := fun q hq => by rw [hS]; exact decide_eq_false (by omega)
  have HSO := Lib.hid (show ∀ q, wa.heap.size ≤ q → S q = true from fun q hq => by rw [hS]; exact decide_eq_true hq)
  clear hS
  have x0 := cell_futS x0 (hSl _ HQ0.out.q.lt)
  have a0 := cell_futS a0 (hSl _ (World.block_lt_of_cell? _ _ a0))
  have a1 := cell_futS a1 (hSl _ (World.block_lt_of_cell? _ _ a1))
  have a2 := cell_futS a2 (hSl _ (World.block_lt_of_cell? _ _ a2))
  have a3 := cell_futS a3 (hSl _ (World.block_lt_of_cell? _ _ a3))
  have a4 := cell_futS a4 (hSl _ (World.block_lt_of_cell? _ _ a4))
  clear hSl
  refine wp_region_MG (relS S) o_pqueue_Queue_knuth_candidate_Pop_3 (by kernel_rfl) (by kernel_rfl) (by intro c a d v w h; cases d <;> exact h) ?_; unfold o_pqueue_Queue_knuth_candidate_Pop_3
  iterate 12 (refine wpS_h rfl rfl (fun K hK => ?_); go_simp; refine hK _ _ ?_; clear hK K)
  refine wpG_o rfl rfl (fun K hK => ?_)
  go_simp
  refine hK _ _ (.inr ((relS S).of_fut ((Fut.refl _).alloc _))) ?_
  clear hK K x0 a0 a1 a2 a3 a4
  obtain ⟨p, hp⟩ : ∃ q, q = wa.heap.size := ⟨_, rfl⟩
  rw [← hp]
  have HP := Lib.hid (show Blk (wa.alloc (.cells #[.int .i64 0, .int .i64 0, .int .i64 0, .int .i64 0, .int .i64 0] 105)).drew p 105 #[.int .i64 0, .int .i64 0, .int .i64 0, .int .i64 0, .int .i64 0] from by rw [hp]; exact (Blk.new wa _ _).drew)
  have HSP := Lib.hid (show S p = true from HSO.out p (by omega))
  have HPL := Lib.hid (show wa.heap.size ≤ p from by omega)
  have HFS := Lib.hid (show Fut wa (wa.alloc (.cells #[.int .i64 0, .int .i64 0, .int .i64 0, .int .i64 0, .int .i64 0] 105)).drew from ((Fut.refl wa).alloc _).drew)
  clear hp
  generalize (wa.alloc (.cells #[.int .i64 0, .int .i64 0, .int .i64 0, .int .i64 0, .int .i64 0] 105)).drew = ws at *
  refine wpG_o rfl rfl (fun K hK => ?_)
  have u0 := HP.out.cell (i := 0) rfl
  have f0 := HP.out.fz 0
  have u1 := HP.out.cell (i := 1) rfl
  have f1 := HP.out.fz 1
  have u2 := HP.out.cell (i := 2) rfl
  have f2 := HP.out.fz 2
  have u3 := HP.out.cell (i := 3) rfl
  have f3 := HP.out.fz 3
  have u4 := HP.out.cell (i := 4) rfl
  have f4 := HP.out.fz 4
  go_simp
  refine hK _ _ (.inr ((relS S).trans (futS_set _ _ _ HSP.out) ((relS S).trans (futS_set _ _ _ HSP.out) ((relS S).trans (futS_set _ _ _ HSP.out) ((relS S).trans (futS_set _ _ _ HSP.out) (futS_set _ _ _ HSP.out)))))) ?_
  clear hK K u0 u1 u2 u3 u4 f0 f1 f2 f3 f4
  have HP2 := Lib.hid (show Blk (((((ws.setCell ⟨p, 0, none⟩ (.int .i64 en)).setCell ⟨p, 1, none⟩ (.int .i64 ec)).setCell ⟨p, 2, none⟩ (.int .i64 e2)).setCell ⟨p, 3, none⟩ (.int .i64 eh)).setCell ⟨p, 4, none⟩ (.int .i64 et)) p 105 #[.int .i64 en, .int .i64 ec, .int .i64 e2, .int .i64 eh, .int .i64 et] from ((((HP.out.set 0 _).set 1 _).set 2 _).set 3 _).set 4 _)
  have HFZ := Lib.hid (show Fut wa (((((ws.setCell ⟨p, 0, none⟩ (.int .i64 en)).setCell ⟨p, 1, none⟩ (.int .i64 ec)).setCell ⟨p, 2, none⟩ (.int .i64 e2)).setCell ⟨p, 3, none⟩ (.int .i64 eh)).setCell ⟨p, 4, none⟩ (.int .i64 et)) from ((((HFS.out.setCell (p := ⟨p, 0, none⟩) HPL.out _).setCell (p := ⟨p, 1, none⟩) HPL.out _).setCell (p := ⟨p, 2, none⟩) HPL.out _).setCell (p := ⟨p, 3, none⟩) HPL.out _).setCell (p := ⟨p, 4, none⟩) HPL.out _)
  generalize (((((ws.setCell ⟨p, 0, none⟩ (.int .i64 en)).setCell ⟨p, 1, none⟩ (.int .i64 ec)).setCell ⟨p, 2, none⟩ (.int .i64 e2)).setCell ⟨p, 3, none⟩ (.int .i64 eh)).setCell ⟨p, 4, none⟩ (.int .i64 et)) = wz at *
  clear HP HFS HSP HSO
  (refine wpS_h rfl rfl (fun K hK => ?_); go_simp; refine hK _ _ ?_; clear hK K)
  refine wpG_nil ?_
  have HQZ := Lib.hid (HQ0.out.go HFZ.out)
  have HRZ := Lib.hid (HR0.out.fut HFZ.out)
  have HFW := Lib.hid (show FutS (SQ qb mb (.slice (some ⟨g, 0, none⟩) m cap)) w wz from FutS.of (HF0.out.trans HFZ.out))
  have HPN := Lib.hid (show ∀ k, SQ qb mb (.slice (some ⟨g, 0, none⟩) m cap) k = true → k ≠ p ∧ k ≠ rb from fun k hk => by
   have h1 : k < w.heap.size := by
    simp only [SQ, Value.ownBlock, Bool.or_eq_true, beq_iff_eq, Option.some.injEq] at hk
    rcases hk with (rfl | rfl) | rfl
    ·
     exact HQ.out.q.lt
    ·
     exact HQ.out.mp.lt
    ·
     exact (World.ownsRow.lt HQ.out.own _ rfl).2
   have h2 := HRB.out
   have h3 := HPL.out
   have h4 := HF0.out.size
   exact ⟨by omega, by omega⟩)
  clear HR0 HQ0 HPL
  go_wp2_with fail
  have hsw := swap_any HQZ.out 0 l (by omega) (by omega)
  refine Calls.mono hsw ?_
  clear hsw
  rintro r w1 ⟨rfl, hs1, hs2⟩
  have HS1 := Lib.hid hs1
  have HP3 := Lib.hid (HP2.out.futS hs2 (by cases e : SQ qb mb (.slice (some ⟨g, 0, none⟩) m cap) p with | false => rfl | true => exact absurd rfl (HPN.out _ e).1))
  have HR3 := Lib.hid (HRZ.out.futS hs2 (by cases e : SQ qb mb (.slice (some ⟨g, 0, none⟩) m cap) rb with | false => rfl | true => exact absurd rfl (HPN.out _ e).2))
  have HF1 := Lib.hid (HFW.out.trans hs2)
  clear hs1 hs2 HP2 HRZ HFW
  have x1 := HS1.out.q.cell (i := 1) rfl
  have f1 := HS1.out.q.fz 1
  go_wp2_with fail
  have HQ2 := Lib.hid (HS1.out.q.set 1 (.slice (some ⟨g, 0, none⟩) l cap))
  have HG2 := Lib.hid (grown_set w1 ⟨qb, 1, none⟩ (.slice (some ⟨g, 0, none⟩) l cap))
  have HMS := Lib.hid (HS1.out.mp.setCell (a := ⟨qb, 1, none⟩) (Ne.symm HS1.out.ne) (.slice (some ⟨g, 0, none⟩) l cap))
  have HO2 := Lib.hid (show OwnN (w1.setCell ⟨qb, 1, none⟩ (.slice (some ⟨g, 0, none⟩) l cap)) B (.slice (some ⟨g, 0, none⟩) l cap) (swp H 0 l) l from by
   have h9 := HS1.out.own
   rw [HLM.out] at h9
   exact World.ownsRow.kept (OwnN.cut h9) (grown_set w1 ⟨qb, 1, none⟩ _) (.inr (by simp only [Value.ownBlock]; intro e; have := Option.some.inj e; have := HS1.out.qB; have := HBG.out; omega)))
  have HP4 := Lib.hid (HP3.out.setOther (a := ⟨qb, 1, none⟩) (fun e => (HPN.out qb sq_q).1 e.symm) (.slice (some ⟨g, 0, none⟩) l cap))
  have HR4 := Lib.hid (HR3.out.setOther (a := ⟨qb, 1, none⟩) (fun e => (HPN.out qb sq_q).2 e.symm) (.slice (some ⟨g, 0, none⟩) l cap))
  have HF2 := Lib.hid (futS_grown HF1.out HG2.out sq_q)
  clear HP3 HR3 HF1 x1 f1
  generalize w1.setCell ⟨qb, 1, none⟩ (.slice (some ⟨g, 0, none⟩) l cap) = w2 at *
  have HQS2 := Lib.hid (show QS w2 qb mb B (.slice (some ⟨g, 0, none⟩) l cap) (swp H 0 l) l nx from ⟨HQ2.out, HMS.out, HO2.out, HS1.out.qB, HS1.out.mB, Nat.le_trans HS1.out.sz HG2.out.size, fun i hi => HS1.out.hd i (by omega), hnx1, by omega⟩)
  clear HQ2 HMS HO2 HG2
  have x2 := cell_fut (HQS2.out.q.cell (i := 2) rfl)
  have y3 := cell_fut (HP4.out.cell (i := 3) rfl)
  refine wp_region_M o_pqueue_Queue_knuth_candidate_Pop_6 (by kernel_rfl) (by kernel_rfl) (by intro c a d v w h; cases d <;> exact h) ?_; unfold o_pqueue_Queue_knuth_candidate_Pop_6
  iterate 6 (refine wpF_h rfl rfl (fun K hK => ?_); go_simp; refine hK _ _ ?_; clear hK K)
  refine wpF_ol rfl (by kernel_rfl) rfl (fun K hK => ?_)
  refine wp_mdel (.tmp 42) (.tmp 44) rfl rfl (b := mb) HQS2.out.mp eh rfl HEH.out.1 HEH.out.2 ?_
  intro w3 hm3 hg3
  refine hK _ _ ?_
  clear hK K x2 y3
  have hg3' : w2.grownBy w3 (some mb) := ⟨hg3.os, hg3.tape, hg3.output, hg3.size, hg3.block⟩
  have HQS3 := Lib.hid (HQS2.out.mapped hg3' hm3)
  have HF3 := Lib.hid (futS_grown HF2.out hg3' sq_m)
  have HP5 := Lib.hid (HP4.out.grown hg3' (fun e => (HPN.out mb sq_m).1 (Option.some.inj e).symm))
  have HR5 := Lib.hid (HR4.out.grown hg3' (fun e => (HPN.out mb sq_m).2 (Option.some.inj e).symm))
  clear hm3 hg3 hg3' HQS2 HF2 HP4 HR4
  refine wpF_nil ?_
  go_wp2_with fail
  have hdn := HeapOK.pop HH.out hm0
  rw [hm9] at hdn
  refine (down_any HQS3.out hdn).mono ?_
  clear hdn
  rintro r w4 ⟨rfl, ⟨H', hd1, hd2, hd3⟩, hd4⟩
  have hsq : ∀ k, SQ qb mb (.slice (some ⟨g, 0, none⟩) l cap) k = SQ qb mb (.slice (some ⟨g, 0, none⟩) m cap) k := fun k => rfl
  have HP6 := Lib.hid (HP5.out.futS hd4 (by cases e : SQ qb mb (.slice (some ⟨g, 0, none⟩) l cap) p with | false => rfl | true => exact absurd rfl (HPN.out _ (by rw [← hsq]; exact e)).1))
  have HR6 := Lib.hid (HR5.out.futS hd4 (by cases e : SQ qb mb (.slice (some ⟨g, 0, none⟩) l cap) rb with | false => rfl | true => exact absurd rfl (HPN.out _ (by rw [← hsq]; exact e)).2))
  have HD1 := Lib.hid (And.intro hd1 (And.intro hd2 hd3))
  have HF4 := Lib.hid (HF3.out.trans (hd4.mono (fun k hk => .inl (by rw [← hsq]; exact hk))))
  clear hd1 hd2 hd3 hd4 hsq HP5 HR5 HF3 HQS3
  have t0 := HP6.out.cell (i := 0) rfl
  have t1 := HP6.out.cell (i := 1) rfl
  have t2 := HP6.out.cell (i := 2) rfl
  have r0 := HR6.out.cell (i := 0) rfl
  have r1 := HR6.out.cell (i := 1) rfl
  have r2 := HR6.out.cell (i := 2) rfl
  have f0 := HR6.out.fz 0
  have f1 := HR6.out.fz 1
  have f2 := HR6.out.fz 2
  have HRR := Lib.hid (((HR6.out.set 0 (.int .i64 en)).set 1 (.int .i64 ec)).set 2 (.int .i64 e2))
  have HFF := Lib.hid (show Fut w4 w4 from Fut.refl w4)
  go_wp2_with fail
  refine bodyPost_ret (res_cell2 pop_res _ _ rb _ _ _ _ rfl HRR.out Tryd.underlying78 rfl (by kernel_rfl)) rfl ?_
  have HPN2 := Lib.hid (show ∀ k, SQ qb mb (.slice (some ⟨g, 0, none⟩) l cap) k = true → k ≠ rb from fun k hk => (HPN.out k hk).2)
  refine ⟨.inr ⟨hm0, ?_, .slice (some ⟨g, 0, none⟩) l cap, H', ?_, ?_, fun c => ?_, rfl⟩, ((HF4.out.setCell (a := ⟨rb, 0, none⟩) (.inr (by rw [HRB.out]; exact Nat.le_refl _)) _).setCell (a := ⟨rb, 1, none⟩) (.inr (by rw [HRB.out]; exact Nat.le_refl _)) _).setCell (a := ⟨rb, 2, none⟩) (.inr (by rw [HRB.out]; exact Nat.le_refl _)) _⟩
  ·
   rw [show cv ((H 0).n : Int) (H 0).v = .agg #[.int .i64 en, .int .i64 ec, .int .i64 e2] from by rw [HEV.out.1, HEV.out.2.1, HEV.out.2.2]]
   rfl
  ·
   rw [hm9]
   exact ((HD1.out.1.setOther (a := ⟨rb, 0, none⟩) HPN2.out _).setOther (a := ⟨rb, 1, none⟩) HPN2.out _).setOther (a := ⟨rb, 2, none⟩) HPN2.out _
  ·
   rw [hm9]; exact HD1.out.2.1
  ·
   rw [pop_mem H hm0 c, hm9, HD1.out.2.2 c]
end Go.Proofs.YtajbmdjlfniofaaDoor
/-
  Valid, as the program and as the reference have it; Small.
-/
namespace Go.Proofs.YtajbmdjlfniofaaDoor
open Go.RowKit
attribute [local go_sem] Oper.lit fut_fut fut_drew World.cell?_alloc_some
theorem in_any (N x : Int) (b : Nat) (w : World) (hc : w.cell? ⟨b, 0, none⟩ = some (.int .i64 N)) :
  Calls Tryd.prog 36 #[.int .i64 x, .pointer (some ⟨b, 0, none⟩)] w fun e w' => e = .returned (.bool (inB' N x)) ∧ w' = w := by
 go_enter Tryd.func36, Tryd.ntmps36
 go_wp2
 all_goals
  go_returns
  refine ⟨?_, rfl⟩
  first | rfl | (simp_all [inB']; try omega)

set_option maxHeartbeats 3200000 in
theorem valid_any (N : Int) (A : Option Addr) (n c : Nat) (es : List EI) (w : World) (hl : es.length = n) (hn : n ≤ maxLen) (hR : RdE w A es) :
  Calls Tryd.prog 28 #[hv N A n c] w fun e w' => e = .returned (.bool (validB N es)) ∧ Below w.heap.size w w' := by
 have hn' : n ≤ 9223372036854775807 := hn
 have HR := Lib.hid hR
 have HL := Lib.hid hl
 clear hR hl hn
 by_cases hN : 1 ≤ N ∧ N ≤ 1048576
 ·
  obtain ⟨hN1, hN2⟩ := hN
  have q0 : ∀ dd os, (fut (w.alloc (.cells #[.int .i64 N, .slice A n c] 24)) dd os).cell? ⟨w.heap.size, 0, none⟩ = some (.int .i64 N) := cell_fut (by (repeat (first | exact (cell_al_new _ _ _ _ _ _ (by first | rfl | (simp only [World.size_alloc]))).trans rfl | refine (cell_al_old _ _ _ (by first | omega | (simp only [World.size_alloc]; omega))).trans ?_)))
  have q1 : ∀ dd os, (fut (w.alloc (.cells #[.int .i64 N, .slice A n c] 24)) dd os).cell? ⟨w.heap.size, 1, none⟩ = some (.slice A n c) := cell_fut (by (repeat (first | exact (cell_al_new _ _ _ _ _ _ (by first | rfl | (simp only [World.size_alloc]))).trans rfl | refine (cell_al_old _ _ _ (by first | omega | (simp only [World.size_alloc]; omega))).trans ?_)))
  go_enter Tryd.func28, Tryd.ntmps28
  go_wp2_with fail
  have HS := Lib.hid (HR.out.fut ((Fut.refl w).alloc (.cells #[.int .i64 N, .slice A n c] 24)))
  have HW := Lib.hid ((Fut.refl w).alloc (.cells #[.int .i64 N, .slice A n c] 24))
  generalize w.alloc (.cells #[.int .i64 N, .slice A n c] 24) = wb at *
  go_loopw [20] (fun i wr => ∃ j : Nat, j ≤ n ∧ i = .int .i64 j ∧ Hid ((es.take j).all (okE N) = true) ∧ Fut wb wr) (fun i _ => n - (intOf i).toNat)
  case atStart => exact ⟨0, Nat.zero_le _, rfl, Lib.hid (by simp), Fut.refl _⟩
  case round =>
   obtain ⟨j, hj, rfl, hall, hF⟩ := hrel
   obtain ⟨dd, oo, rfl⟩ := fut_of hF
   by_cases hlt : j < n
   ·
    obtain ⟨x, hx⟩ := get_lt HL.out hlt
    obtain ⟨b, o, rfl, hc⟩ := HS.out.1 j x hx
    obtain ⟨ht, htl⟩ := (HS.out.2 x (List.mem_of_getElem? hx))
    have HT := Lib.hid (ht.fut hF)
    have HX := Lib.hid hx
    obtain ⟨xh, xt, xc, xl0, xl1, xA, xk⟩ := x
    have c0 := hF.cell (hc 0 _ (by decide) rfl)
    have c1 := hF.cell (hc 1 _ (by decide) rfl)
    have c2 := hF.cell (hc 2 _ (by decide) rfl)
    have c3 := hF.cell (hc 3 _ (by decide) rfl)
    have c4 := hF.cell (hc 4 _ (by decide) rfl)
    simp only [Nat.add_zero] at c0
    clear hx hc ht hF
    by_cases g1 : inB' N xh = true ∧ 0 ≤ xc ∧ xc ≤ 1099511627776
    ·
     obtain ⟨g1, g2, g3⟩ := g1
     have HO : ∀ b : Bool, xt.all (inB' N) = b → Hid (okE N ⟨xh, xt, xc, xl0, xl1, xA, xk⟩ = b) := fun b hb => Lib.hid (by simp [okE, g1, g2, g3, hb])
     have HOO := Lib.hid HO
     clear HO
     have htl' : xt.length ≤ 9223372036854775807 := htl
     go_wp2_with (go_at_call 36; refine (in_any N _ _ _ (by first | assumption | (simp (config := {decide := false}) [go_sem, q0]; done))).mono ?_; rintro e w1 ⟨rfl, rfl⟩)
     have HT2 := Lib.hid (HT.out.fut ((Fut.refl _).alloc (.cells #[.int .i64 xh, .slice xA xt.length xk, .int .i64 xc, .int .i64 xl0, .int .i64 xl1] 49)))
     have HF2 := Lib.hid ((Fut.fut wb dd oo).alloc (.cells #[.int .i64 xh, .slice xA xt.length xk, .int .i64 xc, .int .i64 xl0, .int .i64 xl1] 49))
     clear c0 c1 c2 c3 c4
     have hN0 : ((fut wb dd oo).alloc (.cells #[.int .i64 xh, .slice xA xt.length xk, .int .i64 xc, .int .i64 xl0, .int .i64 xl1] 49)).cell? ⟨w.heap.size, 0, none⟩ = some (.int .i64 N) := Fut.cell ((Fut.refl _).alloc _) (q0 dd oo)
     generalize (fut wb dd oo).alloc (.cells #[.int .i64 xh, .slice xA xt.length xk, .int .i64 xc, .int .i64 xl0, .int .i64 xl1] 49) = wi at *
     go_loopw [42] (fun i wr => ∃ k : Nat, k ≤ xt.length ∧ i = .int .i64 k ∧ Hid ((xt.take k).all (inB' N) = true) ∧ wr = wi) (fun i _ => xt.length - (intOf i).toNat)
     case atStart => exact ⟨0, Nat.zero_le _, rfl, Lib.hid (by simp), rfl⟩
     case round =>
      obtain ⟨k, hk, rfl, hall2, rfl⟩ := hrel
      by_cases hkt : k < xt.length
      ·
       obtain ⟨y, hy⟩ := get_lt rfl hkt
       obtain ⟨b2, o2, rfl, hc2⟩ := HT2.out k y hy
       have HY := Lib.hid hy
       clear hy
       cases hi : inB' N y
       ·
        have hfin : validB N es = false := by
         have h1 := all_not HX.out (HOO.out false (all_not HY.out hi)).out
         simp [validB, h1]
        have HFin := Lib.hid hfin
        clear hfin
        go_wp2_with (go_at_call 36; refine (in_any N _ _ _ (by assumption)).mono ?_; rintro e w1 ⟨rfl, rfl⟩)
        go_ret
        exact ⟨by rw [HFin.out]; rfl, HW.out.trans HF2.out⟩
       ·
        go_wp2_with (go_at_call 36; refine (in_any N _ _ _ (by assumption)).mono ?_; rintro e w1 ⟨rfl, rfl⟩)
        exact ⟨⟨k + 1, by omega, by go_num, Lib.hid (take_all hall2.out HY.out hi), by first | rfl | trivial⟩, by simp [intOf]; omega⟩
      ·
       have hok := (HOO.out true (all_take hall2.out (by omega))).out
       have HK := Lib.hid (take_all hall.out HX.out hok)
       clear hok
       go_wp2_with fail
       exact ⟨⟨j + 1, by omega, by go_num, HK, HF2.out⟩, by simp [intOf]; omega⟩
    ·
     have hfin : validB N es = false := by
      have h1 : okE N ⟨xh, xt, xc, xl0, xl1, xA, xk⟩ = false := by
       cases h : okE N ⟨xh, xt, xc, xl0, xl1, xA, xk⟩ with
       | false => rfl
       | true => exact absurd (by simp [okE] at h; exact ⟨h.1.1.1, h.1.1.2, h.1.2⟩) g1
      simp [validB, all_not HX.out h1]
     have HFin := Lib.hid hfin
     clear hfin
     have hg : inB' N xh = false ∨ (inB' N xh = true ∧ xc < 0) ∨ (inB' N xh = true ∧ 0 ≤ xc ∧ 1099511627776 < xc) := by
      cases h : inB' N xh with
      | false => exact .inl rfl
      | true =>
       by_cases h2 : 0 ≤ xc
       ·
        exact .inr (.inr ⟨rfl, h2, by
         have : ¬ xc ≤ 1099511627776 := fun h3 => g1 ⟨h, h2, h3⟩
         omega⟩)
       ·
        exact .inr (.inl ⟨rfl, by omega⟩)
     clear g1
     rcases hg with g1 | ⟨g1, g2⟩ | ⟨g1, g2, g3⟩
     all_goals
      go_wp2_with (go_at_call 36; refine (in_any N _ _ _ (by first | assumption | (simp (config := {decide := false}) [go_sem, q0]; done))).mono ?_; rintro e w1 ⟨rfl, rfl⟩)
      go_ret
      exact ⟨by rw [HFin.out]; rfl, HW.out.trans ((Fut.fut _ _ _).alloc _)⟩
   ·
    have hfin : validB N es = true := by
     have h1 := all_take hall.out (by rw [HL.out]; omega)
     simp [validB, h1, hN1, hN2]
    have HFin := Lib.hid hfin
    clear hfin
    go_wp2_with fail
    go_ret
    exact ⟨by rw [HFin.out]; rfl, HW.out.trans (Fut.fut _ _ _)⟩
 ·
  have hv : validB N es = false := by
   unfold validB
   by_cases h1 : 1 ≤ N
   ·
    have : ¬ N ≤ 1048576 := fun h => hN ⟨h1, h⟩
    simp [this]
   ·
    simp [h1]
  have HV := Lib.hid hv
  clear hv
  by_cases h1 : 1 ≤ N
  ·
   have h2 : 1048576 < N := by omega
   clear hN
   go_enter Tryd.func28, Tryd.ntmps28
   go_wp2_with fail
   go_ret
   exact ⟨by rw [HV.out]; rfl, (Fut.refl w).alloc _⟩
  ·
   have h2 : N < 1 := by omega
   clear hN h1
   go_enter Tryd.func28, Tryd.ntmps28
   go_wp2_with fail
   go_ret
   exact ⟨by rw [HV.out]; rfl, (Fut.refl w).alloc _⟩
end Go.Proofs.YtajbmdjlfniofaaDoor
/-
  The solver: how it lies in memory.
-/
namespace Go.Proofs.YtajbmdjlfniofaaDoor
open Go.RowKit Go.Deep PK
attribute [local go_sem] Oper.lit Oper.litS fut_fut fut_drew World.cell?_alloc_some
abbrev nv (x : Nat) : Value := .int .i64 (x : Int)
/-- the slice value v owns a row of numbers, xs, among the blocks from B on -/
abbrev Own (w : World) (B : Nat) (v : Value) (xs : List Nat) : Prop := w.ownsRow B 3 1 v xs.length (xs.map nv)
theorem own_futS {w w' : World} {S : Nat → Bool} {B sz n : Nat} {E : TypeId} {v : Value} {xs : List Value} (h : w.ownsRow B E sz v n xs) (hf : FutS S w w') (hS : ∀ g, v.ownBlock = some g → S g = false) : w'.ownsRow B E sz v n xs := by
 refine ⟨h.1, ?_⟩
 rcases h.2 with hn | ⟨g, cap, cur, rfl, hb, hg, rest⟩
 ·
  exact .inl hn
 ·
  exact .inr ⟨g, cap, cur, rfl, hb, (hf.block g (Array.getElem?_eq_some_iff.1 hg).1 (hS g rfl)).trans hg, rest⟩
/-- block u: a row of n slices, the i-th of which owns L i -/
structure Uses (w : World) (B u n : Nat) (U : Nat → Value) (L : Nat → List Nat) : Prop where
 row : w.rowIs u 46 n U
 lt : u < B
 own : ∀ i, i < n → Own w B (U i) (L i)
 sep : ∀ i j g, i < n → j < n → (U i).ownBlock = some g → (U j).ownBlock = some g → i = j
theorem Uses.futS {w w' : World} {S : Nat → Bool} {B u n : Nat} {U : Nat → Value} {L : Nat → List Nat} (h : Uses w B u n U L) (hf : FutS S w w') (hu : S u = false) (hS : ∀ i, i < n → ∀ g, (U i).ownBlock = some g → S g = false) : Uses w' B u n U L :=
 ⟨h.row.of_block (hf.block u h.row.lt hu), h.lt, fun i hi => own_futS (h.own i hi) hf (hS i hi), h.sep⟩
theorem rowIs_futS {w w' : World} {S : Nat → Bool} {b n : Nat} {t : TypeId} {f : Nat → Value} (h : w.rowIs b t n f) (hf : FutS S w w') (hS : S b = false) : w'.rowIs b t n f := h.of_block (hf.block b h.lt hS)
/-- the solver's blocks -/
structure SB where
 sb : Nat
 vb : Nat
 tb : Nat
 ob : Nat
 ub : Nat
 qb : Nat
 mb : Nat
 B : Nat
/-- they are different, and lie behind lo -/
structure SBok (s : SB) (lo : Nat) : Prop where
 lo : lo ≤ s.sb ∧ lo ≤ s.vb ∧ lo ≤ s.tb ∧ lo ≤ s.ob ∧ lo ≤ s.ub ∧ lo ≤ s.qb ∧ lo ≤ s.mb
 hi : s.sb < s.B ∧ s.vb < s.B ∧ s.tb < s.B ∧ s.ob < s.B ∧ s.ub < s.B ∧ s.qb < s.B ∧ s.mb < s.B
 n1 : s.sb ≠ s.vb ∧ s.sb ≠ s.tb ∧ s.sb ≠ s.ob ∧ s.sb ≠ s.ub ∧ s.sb ≠ s.qb ∧ s.sb ≠ s.mb
 n2 : s.vb ≠ s.tb ∧ s.vb ≠ s.ob ∧ s.vb ≠ s.ub ∧ s.vb ≠ s.qb ∧ s.vb ≠ s.mb
 n3 : s.tb ≠ s.ob ∧ s.tb ≠ s.ub ∧ s.tb ≠ s.qb ∧ s.tb ≠ s.mb
 n4 : s.ob ≠ s.ub ∧ s.ob ≠ s.qb ∧ s.ob ≠ s.mb
 n5 : s.ub ≠ s.qb ∧ s.ub ≠ s.mb ∧ s.qb ≠ s.mb
abbrev solverCells (s : SB) (N n : Nat) (A : Option Addr) (c : Nat) : Array Value := #[.int .i64 (N : Int), .slice A n c, .slice (some ⟨s.vb, 0, none⟩) N N, .slice (some ⟨s.tb, 0, none⟩) N N, .slice (some ⟨s.ob, 0, none⟩) n n, .slice (some ⟨s.ub, 0, none⟩) N N, .pointer (some ⟨s.qb, 0, none⟩)]
abbrev RowB (w : World) (b n : Nat) (T : Nat → Bool) : Prop := w.rowIs b 4 n (fun i => .bool (T i))
theorem RowB.set {w : World} {b n : Nat} {T : Nat → Bool} (h : RowB w b n T) (i : Nat) (x : Bool) : RowB (w.setCell ⟨b, i, none⟩ (.bool x)) b n (upd T i x) :=
 (World.rowIs.set h i _).congr (fun k _ => by
  unfold upd
  by_cases e : k = i <;> simp [e])
abbrev RowN (w : World) (b n : Nat) (O : Nat → Nat) : Prop := w.rowIs b 3 n (fun i => nv (O i))
theorem RowN.set {w : World} {b n : Nat} {O : Nat → Nat} (h : RowN w b n O) (i x : Nat) : RowN (w.setCell ⟨b, i, none⟩ (nv x)) b n (upd O i x) :=
 (World.rowIs.set h i _).congr (fun k _ => by
  unfold upd
  by_cases e : k = i <;> simp [e])
/-- the solver's state but for its queue -/
structure S1 (s : SB) (N n : Nat) (A : Option Addr) (c : Nat) (wr : World) (V : Nat → VV) (T : Nat → Bool) (O : Nat → Nat) (U : Nat → Value) (L : Nat → List Nat) : Prop where
 sv : Blk wr s.sb 75 (solverCells s N n A c)
 v : RowV wr s.vb N V
 t : RowB wr s.tb N T
 o : RowN wr s.ob n O
 u : Uses wr s.B s.ub N U L
section
variable {s : SB} {N n : Nat} {A : Option Addr} {c : Nat} {wr w2 : World} {V : Nat → VV} {T : Nat → Bool} {O : Nat → Nat} {U : Nat → Value} {L : Nat → List Nat} {lo : Nat} {S : Nat → Bool}
theorem S1.futS (h : S1 s N n A c wr V T O U L) (hf : FutS S wr w2) (h1 : S s.sb = false) (h2 : S s.vb = false) (h3 : S s.tb = false) (h4 : S s.ob = false) (h5 : S s.ub = false) (h6 : ∀ i, i < N → ∀ g, (U i).ownBlock = some g → S g = false) : S1 s N n A c w2 V T O U L :=
 ⟨h.sv.futS hf h1, rowIs_futS h.v hf h2, rowIs_futS h.t hf h3, rowIs_futS h.o hf h4, h.u.futS hf h5 h6⟩
theorem S1.go (h : S1 s N n A c wr V T O U L) (hf : Fut wr w2) : S1 s N n A c w2 V T O U L :=
 h.futS (S := fun _ => false) (FutS.of hf) rfl rfl rfl rfl rfl (fun _ _ _ _ => rfl)
/-- behind an operation of the queue -/
theorem S1.queue (h : S1 s N n A c wr V T O U L) (hb : SBok s lo) {v : Value} {H : Nat → EN} {m nx : Nat} (hq : QS wr s.qb s.mb s.B v H m nx) (hf : FutS (SQ s.qb s.mb v) wr w2) : S1 s N n A c w2 V T O U L := by
 have hv : ∀ k, k < s.B → v.ownBlock ≠ some k := fun k hk e => by have := (World.ownsRow.lt hq.own k e).1; omega
 have key : ∀ k, k < s.B → k ≠ s.qb → k ≠ s.mb → SQ s.qb s.mb v k = false := fun k h1 h2 h3 => by
  cases e : SQ s.qb s.mb v k with
  | false => rfl
  | true =>
   simp only [SQ, Bool.or_eq_true, beq_iff_eq] at e
   rcases e with (e | e) | e
   ·
    exact absurd e h2
   ·
    exact absurd e h3
   ·
    exact absurd e (hv k h1)
 obtain ⟨_, hi, n1, n2, n3, n4, n5⟩ := hb
 refine h.futS hf (key _ (by omega) (by omega) (by omega)) (key _ (by omega) (by omega) (by omega)) (key _ (by omega) (by omega) (by omega)) (key _ (by omega) (by omega) (by omega)) (key _ (by omega) (by omega) (by omega)) (fun i hi9 g hg => ?_)
 have ho := h.u.own i hi9
 have hgB := (World.ownsRow.lt ho g hg).1
 cases e : SQ s.qb s.mb v g with
 | false => rfl
 | true =>
  exfalso
  simp only [SQ, Bool.or_eq_true, beq_iff_eq] at e
  rcases e with (e | e) | e
  ·
   omega
  ·
   omega
  ·
   obtain ⟨_, hx | ⟨g1, _, _, hv1, _, hh1, _⟩⟩ := ho
   ·
    rw [hx.1] at hg; simp [Value.ownBlock] at hg
   ·
    obtain ⟨_, hy | ⟨g2, _, _, hv2, _, hh2, _⟩⟩ := hq.own
    ·
     rw [hy.1] at e; simp [Value.ownBlock] at e
    ·
     rw [hv1] at hg
     rw [hv2] at e
     simp only [Value.ownBlock, Option.some.injEq] at hg e
     subst hg
     subst e
     rw [hh1] at hh2
     simp at hh2
end
end Go.Proofs.YtajbmdjlfniofaaDoor
/-
  The solver: offer.
-/
namespace Go.Proofs.YtajbmdjlfniofaaDoor
open Go.RowKit Go.Deep PK
attribute [local go_sem] Oper.lit Oper.litS fut_fut fut_drew World.cell?_alloc_some
theorem fut_base_drew (b : World) (d : Nat) (os : Array Obj) : fut b.drew d os = fut b d os := rfl
attribute [local go_sem] fut_base_drew
/-- the agenda as a list -/
def agL (H : Nat → EN) (m : Nat) : List (Nat × VV) := (List.range m).map (fun k => ((H k).n, (H k).v))
theorem mem_agL {H : Nat → EN} {m : Nat} {x : Nat × VV} : x ∈ agL H m ↔ ∃ k, k < m ∧ ((H k).n, (H k).v) = x := by
 unfold agL
 simp [List.mem_map]
theorem agL_of {H G : Nat → EN} {m l : Nat} {e : EN} (h : ∀ c, (∃ k, k < l ∧ G k = c) ↔ c = e ∨ ∃ k, k < m ∧ H k = c) (x : Nat × VV) : x ∈ agL G l ↔ x = (e.n, e.v) ∨ x ∈ agL H m := by
 rw [mem_agL, mem_agL]
 constructor
 ·
  rintro ⟨k, hk, rfl⟩
  rcases (h (G k)).1 ⟨k, hk, rfl⟩ with h1 | ⟨j, hj, h1⟩
  ·
   exact .inl (by rw [h1])
  ·
   exact .inr ⟨j, hj, by rw [h1]⟩
 ·
  rintro (rfl | ⟨k, hk, rfl⟩)
  ·
   obtain ⟨k, hk, h1⟩ := (h e).2 (.inl rfl)
   exact ⟨k, hk, by rw [h1]⟩
  ·
   obtain ⟨j, hj, h1⟩ := (h (H k)).2 (.inr ⟨k, hk, rfl⟩)
   exact ⟨j, hj, by rw [h1]⟩
/-- what an offer leaves of the agenda -/
def Off (V : Nat → VV) (T : Nat → Bool) (E : EE) (H : Nat → EN) (m nx : Nat) (H' : Nat → EN) (m' nx' : Nat) : Prop :=
 ((ev V E).c < INF ∧ T E.h = false ∧ nx' = nx + 1 ∧ m' = m + 1 ∧ ∀ x, x ∈ agL H' m' ↔ x = (E.h, ev V E) ∨ x ∈ agL H m) ∨ (¬ ((ev V E).c < INF ∧ T E.h = false) ∧ nx' = nx ∧ m' = m ∧ ∀ x, x ∈ agL H' m' ↔ x ∈ agL H m)
set_option maxHeartbeats 6400000 in
theorem offer_any {s : SB} {N n : Nat} {A : Option Addr} {c : Nat} {wr : World} {V : Nat → VV} {T : Nat → Bool} {O : Nat → Nat} {U : Nat → Value} {L : Nat → List Nat} {v : Value} {H : Nat → EN} {m nx : Nat} {es : List EI}
  (h1 : S1 s N n A c wr V T O U L) (hq : QS wr s.qb s.mb s.B v H m nx) (hh : HeapOK bef H m) (hnx : nx < 100000000000) (hN : N ≤ 1048576) (hV : ∀ u, okV (V u)) (hl : es.length = n) (hn : n ≤ 1000000) (hvd : ∀ e ∈ es, okE (N : Int) e = true) (htl : ∀ e ∈ es, e.t.length ≤ 1000000) (hR : RdE wr A es)
  (k : Nat) (E : EE) (hE : (EEs es)[k]? = some E) :
  Calls Tryd.prog 40 #[.pointer (some ⟨s.sb, 0, none⟩), .int .i64 (k : Int)] wr fun r w' => r = .returned (.tuple #[]) ∧ (∃ v' H' m' nx', QS w' s.qb s.mb s.B v' H' m' nx' ∧ HeapOK bef H' m' ∧ Off V T E H m nx H' m' nx') ∧ FutS (SQ s.qb s.mb v) wr w' := by
 have hk : k < n := by
  have := (List.getElem?_eq_some_iff.1 hE).1
  rw [List.length_map, hl] at this
  exact this
 obtain ⟨x, hx⟩ := get_lt hl hk
 have hxm := List.mem_of_getElem? hx
 obtain ⟨x1, x2, x3, x4, x5⟩ := okE_parts (hvd x hxm)
 obtain ⟨b2, o2, rfl, hc⟩ := hR.1 k x hx
 obtain ⟨ht, _⟩ := hR.2 x hxm
 have hxl := htl x hxm
 obtain ⟨xh, xt, xc, xl0, xl1, xA, xk⟩ := x
 simp only at x1 x2 x3 x4 x5 hxl ht
 obtain ⟨h9, rfl⟩ : ∃ h : Nat, xh = h := ⟨xh.toNat, by omega⟩
 have hh9 : h9 < N := by omega
 have hEE : E = toEE ⟨(h9 : Int), xt, xc, xl0, xl1, xA, xk⟩ := by
  rw [List.getElem?_map, hx] at hE
  exact (Option.some.inj hE).symm
 subst hEE
 have c0 := hc 0 _ (by decide) rfl
 have c1 := hc 1 _ (by decide) rfl
 have c2 := hc 2 _ (by decide) rfl
 have c3 := hc 3 _ (by decide) rfl
 have c4 := hc 4 _ (by decide) rfl
 simp only [Nat.add_zero] at c0
 have g1 := h1.sv.cell (i := 1) rfl
 have htl63 : xt.length ≤ 9223372036854775807 := by omega
 have hn63 : n ≤ 9223372036854775807 := by omega
 have H1 := Lib.hid h1
 have HQ := Lib.hid hq
 have HH := Lib.hid hh
 have HVk := Lib.hid hV
 have HXC := Lib.hid (show 0 ≤ xc ∧ xc ≤ INF from ⟨x3, x4⟩)
 have HX5 := Lib.hid x5
 obtain ⟨y, hy⟩ : ∃ y, y = ev V (toEE ⟨(h9 : Int), xt, xc, xl0, xl1, xA, xk⟩) := ⟨_, rfl⟩
 obtain ⟨yc, ys⟩ := y
 have HY := Lib.hid hy
 have HT := Lib.hid ht
 clear h1 hq hh hV hl hvd htl hR hE hx hxm hc ht x1 x2 x3 x4 x5 hy
 go_enter Tryd.func40, Tryd.ntmps40
 go_wp2_with fail
 have HF1 := Lib.hid (show Fut wr (wr.alloc (.cells #[.int .i64 (h9 : Int), .slice xA xt.length xk, .int .i64 xc, .int .i64 xl0, .int .i64 xl1] 49)) from (Fut.refl wr).alloc _)
 have HSC := Lib.hid (scomb_any s.sb s.vb N V ⟨(h9 : Int), xt, xc, xl0, xl1, xA, xk⟩ (wr.alloc (.cells #[.int .i64 (h9 : Int), .slice xA xt.length xk, .int .i64 xc, .int .i64 xl0, .int .i64 xl1] 49)) (HF1.out.cell (H1.out.sv.cell (i := 2) rfl)) (H1.out.v.fut HF1.out) hN HVk.out HXC.out HX5.out (by simp only; omega) (HT.out.fut HF1.out))
 obtain ⟨eb, heb⟩ : ∃ eb, eb = wr.heap.size := ⟨_, rfl⟩
 rw [← heb]
 have HB1 := Lib.hid (show Blk (wr.alloc (.cells #[.int .i64 (h9 : Int), .slice xA xt.length xk, .int .i64 xc, .int .i64 xl0, .int .i64 xl1] 49)) eb 49 #[.int .i64 (h9 : Int), .slice xA xt.length xk, .int .i64 xc, .int .i64 xl0, .int .i64 xl1] from by rw [heb]; exact Blk.new wr _ _)
 clear heb g1 c0 c1 c2 c3 c4
 generalize wr.alloc (.cells #[.int .i64 (h9 : Int), .slice xA xt.length xk, .int .i64 xc, .int .i64 xl0, .int .i64 xl1] 49) = wx at *
 refine HSC.out.mono ?_
 rintro r w1 ⟨hr, hb1⟩
 rw [← HY.out] at hr
 subst hr
 have HF2 := Lib.hid (show Fut wr (w1.alloc (.cells #[.int .i64 yc, .int .i64 ys] 37)) from (HF1.out.trans hb1).alloc _)
 obtain ⟨yb, hyb⟩ : ∃ yb, yb = w1.heap.size := ⟨_, rfl⟩
 have HYB := Lib.hid (show Blk (w1.alloc (.cells #[.int .i64 yc, .int .i64 ys] 37)) yb 37 #[.int .i64 yc, .int .i64 ys] from by rw [hyb]; exact Blk.new w1 _ _)
 have HB2 := Lib.hid ((HB1.out.fut hb1).alloc (.cells #[.int .i64 yc, .int .i64 ys] 37))
 clear HSC hb1
 go_wp2_with fail
 rw [← hyb]
 clear hyb
 generalize w1.alloc (.cells #[.int .i64 yc, .int .i64 ys] 37) = wy at *
 have HFY := HF2
 have HQY := Lib.hid (HQ.out.go HFY.out)
 have H1Y := Lib.hid (H1.out.go HFY.out)
 have y0 := cell_fut (HYB.out.cell (i := 0) rfl)
 have y1 := cell_fut (HYB.out.cell (i := 1) rfl)
 have e0 := cell_fut (HB2.out.cell (i := 0) rfl)
 have s3 := cell_fut (H1Y.out.sv.cell (i := 3) rfl)
 have s6 := cell_fut (H1Y.out.sv.cell (i := 6) rfl)
 have t0 := cell_fut (World.rowIs.cell H1Y.out.t hh9)
 obtain ⟨tv, htv⟩ : ∃ z, z = T h9 := ⟨_, rfl⟩
 rw [← htv] at t0
 have HTV := Lib.hid htv
 clear htv
 by_cases hfin : yc < 1099511627776
 ·
  cases tv with
  | false =>
   refine wp_region_M o_knuth_solver_offer_2 (by kernel_rfl) (by kernel_rfl) (by intro c a d v w h; cases d <;> exact h) ?_; unfold o_knuth_solver_offer_2
   iterate 14 (refine wpF_h rfl rfl (fun K hK => ?_); go_simp; refine hK _ _ ?_; clear hK K)
   refine wpF_nil ?_
   go_wp2_with fail
   refine wp_region_M o_knuth_solver_offer_3 (by kernel_rfl) (by kernel_rfl) (by intro c a d v w h; cases d <;> exact h) ?_; unfold o_knuth_solver_offer_3
   iterate 8 (refine wpF_h rfl rfl (fun K hK => ?_); go_simp; refine hK _ _ ?_; clear hK K)
   refine wpF_ol rfl (by kernel_rfl) rfl (fun K hK => ?_)
   go_simp
   go_at_call 48
   refine (push_any (HQY.out.go ((Fut.refl wy).drew.drew)) HH.out hnx h9 ⟨yc, ys⟩).mono ?_
   rintro r w9 ⟨⟨u9, rfl⟩, ⟨v', H', p1, p2, p3⟩, p4⟩
   refine hK _ _ ?_
   clear hK K
   have HP := Lib.hid (And.intro p1 (And.intro p2 (And.intro p3 p4)))
   clear p1 p2 p3 p4
   refine wpF_nil ?_
   go_wp2_with fail
   go_returns
   refine ⟨rfl, ⟨v', H', m + 1, nx + 1, HP.out.1, HP.out.2.1, .inl ⟨?_, ?_, rfl, rfl, fun x => ?_⟩⟩, (FutS.of (HFY.out.trans (Fut.refl wy).drew.drew)).trans HP.out.2.2.2⟩
   ·
    rw [← HY.out]; exact hfin
   ·
    show T (Int.toNat (h9 : Int)) = false
    rw [Int.toNat_natCast]; exact HTV.out.symm
   ·
    have h8 := agL_of HP.out.2.2.1 x
    rw [← HY.out]
    simpa [toEE] using h8
  | true =>
   refine wp_region_M o_knuth_solver_offer_2 (by kernel_rfl) (by kernel_rfl) (by intro c a d v w h; cases d <;> exact h) ?_; unfold o_knuth_solver_offer_2
   iterate 14 (refine wpF_h rfl rfl (fun K hK => ?_); go_simp; refine hK _ _ ?_; clear hK K)
   refine wpF_nil ?_
   have HFZ := Lib.hid (Fut.refl wy).drew
   go_wp2_with fail
   go_returns
   refine ⟨rfl, ⟨v, H, m, nx, HQY.out.go HFZ.out, HH.out, .inr ⟨?_, rfl, rfl, fun x => Iff.rfl⟩⟩, FutS.of (HFY.out.trans HFZ.out)⟩
   rintro ⟨_, h8⟩
   have h7 : T h9 = false := by simpa [toEE] using h8
   rw [← HTV.out] at h7
   cases h7
 ·
  refine wp_region_M o_knuth_solver_offer_2 (by kernel_rfl) (by kernel_rfl) (by intro c a d v w h; cases d <;> exact h) ?_; unfold o_knuth_solver_offer_2
  iterate 4 (refine wpF_h rfl rfl (fun K hK => ?_); go_simp; refine hK _ _ ?_; clear hK K)
  iterate 9 (refine wpF_hs2 rfl rfl (fun K hK => ?_); go_simp; refine hK _ _ ?_; clear hK K)
  (refine wpF_h rfl rfl (fun K hK => ?_); go_simp; refine hK _ _ ?_; clear hK K)
  refine wpF_nil ?_
  have HFZ := Lib.hid (Fut.refl wy).drew
  go_wp2_with fail
  go_returns
  refine ⟨rfl, ⟨v, H, m, nx, HQY.out.go HFZ.out, HH.out, .inr ⟨?_, rfl, rfl, fun x => Iff.rfl⟩⟩, FutS.of (HFY.out.trans HFZ.out)⟩
  rintro ⟨h8, _⟩
  rw [← HY.out] at h8
  have h8' : yc < 1099511627776 := h8
  omega
end Go.Proofs.YtajbmdjlfniofaaDoor
