/-
  The queue: how it lies in memory; before, swap.
-/
import Derived.Test.YtleapckcihcpaaaKmap
import Derived.Test.YtleapckcihcpaaaPheap
namespace Go.Proofs.Ytleapckcihcpaaa
open Go.RowKit Go.Deep PK
attribute [local go_sem] Oper.lit Oper.litS fut_fut fut_drew World.cell?_alloc_some
attribute [local go_sem] World.frozen?_setCell
abbrev fless : Value := .func (.func 40) #[] #[]
def encN (e : EN) : List Value := [.int .i64 (e.n : Int), .int .i64 e.v.c, .int .i64 e.v.s, .int .i64 e.hd, .int .i64 e.tm]
theorem encN_len (e : EN) : (encN e).length = 5 := rfl
def entL (H : Nat → EN) (m : Nat) : List Value := ((List.range m).map H).flatMap encN
theorem entL_len (H : Nat → EN) (m : Nat) : (entL H m).length = m * 5 := by unfold entL; rw [flat_len encN 5 encN_len]; simp
theorem entL_get (H : Nat → EN) (m i t : Nat) (hi : i < m) (ht : t < 5) : (entL H m)[i * 5 + t]? = (encN (H i))[t]? := by
  unfold entL
  exact flat_get encN 5 encN_len _ i (H i) t (by rw [List.getElem?_map, List.getElem?_range hi]; rfl) ht
theorem entL_congr {H G : Nat → EN} {m : Nat} (h : ∀ i, i < m → H i = G i) : entL H m = entL G m := by
  unfold entL
  congr 1
  exact List.map_congr_left (fun i hi => h i (List.mem_range.1 hi))
theorem entL_succ (H : Nat → EN) (m : Nat) (e : EN) : entL (upd H m e) (m + 1) = entL H m ++ encN e := by
  unfold entL
  rw [List.range_succ, List.map_append, List.flatMap_append]
  congr 1
  · exact entL_congr (fun i hi => upd_other _ _ _ _ (by omega))
  · simp [upd_same]
theorem entL_take (H : Nat → EN) (m : Nat) : (entL H (m + 1)).take (m * 5) = entL H m := by
  have h := entL_succ H m (H m)
  rw [entL_congr (G := H) (fun i _ => by unfold upd; split <;> simp_all)] at h
  rw [h, List.take_left' (entL_len H m)]
def sets5 (l : List Value) (i : Nat) (e : EN) : List Value := ((((l.set (i * 5) (.int .i64 (e.n : Int))).set (i * 5 + 1) (.int .i64 e.v.c)).set (i * 5 + 2) (.int .i64 e.v.s)).set (i * 5 + 3) (.int .i64 e.hd)).set (i * 5 + 4) (.int .i64 e.tm)
theorem sets5_eq (H : Nat → EN) (m i : Nat) (e : EN) (hi : i < m) : sets5 (entL H m) i e = entL (upd H i e) m := by
  have hl := entL_len H m
  apply List.ext_getElem?
  intro k
  obtain ⟨q, r, hr, rfl⟩ : ∃ q r, r < 5 ∧ k = q * 5 + r := ⟨k / 5, k % 5, by omega, by omega⟩
  by_cases hq : q < m
  · rw [entL_get _ m q r hq hr]
    unfold sets5
    by_cases e1 : q = i
    · subst e1
      rw [upd_same]
      match r, hr with
      | 0, _ => simp [List.getElem?_set, hl, encN]; omega
      | 1, _ => simp [List.getElem?_set, hl, encN]; omega
      | 2, _ => simp [List.getElem?_set, hl, encN]; omega
      | 3, _ => simp [List.getElem?_set, hl, encN]; omega
      | 4, _ => simp [List.getElem?_set, hl, encN]; omega
    · rw [upd_other _ _ _ _ e1, List.getElem?_set_ne (by omega), List.getElem?_set_ne (by omega), List.getElem?_set_ne (by omega), List.getElem?_set_ne (by omega), List.getElem?_set_ne (by omega)]
      exact entL_get H m q r hq hr
  · rw [List.getElem?_eq_none (by unfold sets5; simp only [List.length_set, hl]; omega), List.getElem?_eq_none (by rw [entL_len]; omega)]
def set5 (w : World) (g i : Nat) (e : EN) : World := ((((w.setCell ⟨g, i * 5, none⟩ (.int .i64 (e.n : Int))).setCell ⟨g, i * 5 + 1, none⟩ (.int .i64 e.v.c)).setCell ⟨g, i * 5 + 2, none⟩ (.int .i64 e.v.s)).setCell ⟨g, i * 5 + 3, none⟩ (.int .i64 e.hd)).setCell ⟨g, i * 5 + 4, none⟩ (.int .i64 e.tm)
abbrev OwnN (w : World) (B : Nat) (v : Value) (H : Nat → EN) (m : Nat) : Prop := w.ownsRow B 101 5 v m (entL H m)
section
variable {w w' : World} {B g m cap : Nat} {H : Nat → EN} {v : Value}
theorem OwnN.set (h : OwnN w B (.slice (some ⟨g, 0, none⟩) m cap) H m) (i : Nat) (e : EN) (hi : i < m) : OwnN (set5 w g i e) B (.slice (some ⟨g, 0, none⟩) m cap) (upd H i e) m ∧ w.grownBy (set5 w g i e) (some g) := by
  have h1 := World.ownsRow.stored h (i * 5) (.int .i64 (e.n : Int))
  have h2 := h1.1.stored (i * 5 + 1) (.int .i64 e.v.c)
  have h3 := h2.1.stored (i * 5 + 2) (.int .i64 e.v.s)
  have h4 := h3.1.stored (i * 5 + 3) (.int .i64 e.hd)
  have h5 := h4.1.stored (i * 5 + 4) (.int .i64 e.tm)
  refine ⟨?_, World.grownBy.trans h1.2 (World.grownBy.trans h2.2 (World.grownBy.trans h3.2 (World.grownBy.trans h4.2 h5.2)))⟩
  have := h5.1
  rw [show ((((((entL H m).set (i * 5) (.int .i64 (e.n : Int))).set (i * 5 + 1) (.int .i64 e.v.c)).set (i * 5 + 2) (.int .i64 e.v.s)).set (i * 5 + 3) (.int .i64 e.hd)).set (i * 5 + 4) (.int .i64 e.tm)) = entL (upd H i e) m from sets5_eq H m i e hi] at this
  exact this
theorem OwnN.cut (h : OwnN w B (.slice (some ⟨g, 0, none⟩) (m + 1) cap) H (m + 1)) : OwnN w B (.slice (some ⟨g, 0, none⟩) m cap) H m := by
  obtain ⟨hl, ⟨hv, _⟩ | ⟨g', cap', cur, hv, h1, h2, h3, h4, h5, h6⟩⟩ := h
  · simp at hv
  · injection hv with e1 e2 e3
    injection e1 with e1
    injection e1 with e1 _ _
    subst e1 e3
    refine ⟨entL_len H m, .inr ⟨g, cap, cur, rfl, h1, h2, by omega, h4, h5, ?_⟩⟩
    have := congrArg (List.take (m * 5)) h6
    rw [entL_take, List.take_take, Nat.min_eq_left (by omega)] at this
    exact this
theorem OwnN.at (h : OwnN w B (.slice (some ⟨g, 0, none⟩) m cap) H m) {i : Nat} (hi : i < m) : w.cell? ⟨g, i * 5, none⟩ = some (.int .i64 ((H i).n : Int)) ∧ w.cell? ⟨g, i * 5 + 1, none⟩ = some (.int .i64 (H i).v.c) ∧ w.cell? ⟨g, i * 5 + 2, none⟩ = some (.int .i64 (H i).v.s) ∧ w.cell? ⟨g, i * 5 + 3, none⟩ = some (.int .i64 (H i).hd) ∧ w.cell? ⟨g, i * 5 + 4, none⟩ = some (.int .i64 (H i).tm) :=
  ⟨(World.ownsRow.cellAt h (i * 5) (by omega)).trans (entL_get H m i 0 hi (by decide)), (World.ownsRow.cellAt h (i * 5 + 1) (by omega)).trans (entL_get H m i 1 hi (by decide)), (World.ownsRow.cellAt h (i * 5 + 2) (by omega)).trans (entL_get H m i 2 hi (by decide)), (World.ownsRow.cellAt h (i * 5 + 3) (by omega)).trans (entL_get H m i 3 hi (by decide)), (World.ownsRow.cellAt h (i * 5 + 4) (by omega)).trans (entL_get H m i 4 hi (by decide))⟩
theorem OwnN.form (h : OwnN w B v H m) (hm : 0 < m) : ∃ g cap, v = .slice (some ⟨g, 0, none⟩) m cap ∧ B ≤ g ∧ g < w.heap.size ∧ m ≤ cap ∧ cap ≤ maxLen := by
  have h0 := h
  obtain ⟨_, ⟨_, hn⟩ | ⟨g, cap, cur, hv, h1, h2, h3, h4, _⟩⟩ := h
  · omega
  · exact ⟨g, cap, hv, h1, (Array.getElem?_eq_some_iff.1 h2).1, h3, h4⟩
end
/-- the queue at block qb, its map at mb, its heap's entries H in a row from block B on; nx: the next handle and time -/
structure QS (w : World) (qb mb B : Nat) (v : Value) (H : Nat → EN) (m nx : Nat) : Prop where
  q : Blk w qb 97 #[fless, v, .map (some mb), .int .i64 (nx : Int), .int .i64 (nx : Int)]
  mp : MPi w mb
  own : OwnN w B v H m
  qB : qb < B
  mB : mb < B
  sz : B ≤ w.heap.size
  hd : ∀ i, i < m → 0 ≤ (H i).hd ∧ (H i).hd < nx
  nx1 : nx ≤ 100000000000
  mx : m ≤ nx
theorem QS.ne {w : World} {qb mb B : Nat} {v : Value} {H : Nat → EN} {m nx : Nat} (h : QS w qb mb B v H m nx) : qb ≠ mb := by
  intro e
  obtain ⟨es, clock, hb, _⟩ := h.mp
  have := h.q
  unfold Blk at this
  rw [e, hb] at this
  cases this
/-- what the queue's own operations may write -/
def SQ (qb mb : Nat) (v : Value) (k : Nat) : Bool := k == qb || k == mb || v.ownBlock == some k
theorem QS.go {w w' : World} {qb mb B : Nat} {v : Value} {H : Nat → EN} {m nx : Nat} (h : QS w qb mb B v H m nx) (hf : Fut w w') : QS w' qb mb B v H m nx :=
  ⟨h.q.fut hf, h.mp.fut hf, World.ownsRow.kept (row := none) h.own ⟨hf.os, hf.tape, hf.output, hf.size, fun k hk _ => hf.block k hk⟩ (by
    cases hv : v.ownBlock with
    | none => exact .inl rfl
    | some k => exact .inr (by simp)), h.qB, h.mB, Nat.le_trans h.sz hf.size, h.hd, h.nx1, h.mx⟩
set_option maxHeartbeats 6400000 in
theorem before_any {w : World} {qb mb B : Nat} {v : Value} {H : Nat → EN} {m nx : Nat} (h : QS w qb mb B v H m nx) (i j : Nat) (hi : i < m) (hj : j < m) :
    Calls Try.prog 59 #[.pointer (some ⟨qb, 0, none⟩), .int .i64 (i : Int), .int .i64 (j : Int)] w fun r w' => r = .returned (.bool (bef (H i) (H j))) ∧ Below w.heap.size w w' := by
  have HQ := Lib.hid h
  obtain ⟨g, cap, rfl, hBg, hgl, hmc, hcap⟩ := h.own.form (by omega)
  have hm63 : m ≤ 9223372036854775807 := by have := h.nx1; have := h.mx; omega
  obtain ⟨i0, i1, i2, i3, i4⟩ := h.own.at hi
  obtain ⟨j0, j1, j2, j3, j4⟩ := h.own.at hj
  obtain ⟨xin, hxin⟩ : ∃ z, z = ((H i).n : Int) := ⟨_, rfl⟩
  obtain ⟨xic, hxic⟩ : ∃ z, z = (H i).v.c := ⟨_, rfl⟩
  obtain ⟨xis, hxis⟩ : ∃ z, z = (H i).v.s := ⟨_, rfl⟩
  obtain ⟨xih, hxih⟩ : ∃ z, z = (H i).hd := ⟨_, rfl⟩
  obtain ⟨xit, hxit⟩ : ∃ z, z = (H i).tm := ⟨_, rfl⟩
  obtain ⟨xjn, hxjn⟩ : ∃ z, z = ((H j).n : Int) := ⟨_, rfl⟩
  obtain ⟨xjc, hxjc⟩ : ∃ z, z = (H j).v.c := ⟨_, rfl⟩
  obtain ⟨xjs, hxjs⟩ : ∃ z, z = (H j).v.s := ⟨_, rfl⟩
  obtain ⟨xjh, hxjh⟩ : ∃ z, z = (H j).hd := ⟨_, rfl⟩
  obtain ⟨xjt, hxjt⟩ : ∃ z, z = (H j).tm := ⟨_, rfl⟩
  rw [← hxin] at i0
  rw [← hxic] at i1
  rw [← hxis] at i2
  rw [← hxih] at i3
  rw [← hxit] at i4
  rw [← hxjn] at j0
  rw [← hxjc] at j1
  rw [← hxjs] at j2
  rw [← hxjh] at j3
  rw [← hxjt] at j4
  have HVI := Lib.hid (show (H i).v = ⟨xic, xis⟩ from by rw [hxic, hxis])
  have HVJ := Lib.hid (show (H j).v = ⟨xjc, xjs⟩ from by rw [hxjc, hxjs])
  have HTI := Lib.hid hxit
  have HTJ := Lib.hid hxjt
  have HNI := Lib.hid hxin
  have HNJ := Lib.hid hxjn
  obtain ⟨S, hS⟩ : ∃ S : Nat → Bool, S = fun q => decide (w.heap.size ≤ q) := ⟨_, rfl⟩
  have hSl : ∀ q, q < w.heap.size → S q = false := fun q hq => by rw [hS]; exact decide_eq_false (by omega)
  have hSo : ∀ q, w.heap.size ≤ q → S q = true := fun q hq => by rw [hS]; exact decide_eq_true hq
  clear hS
  have x0 := cell_futS (h.q.cell (i := 0) rfl) (hSl _ h.q.lt)
  have x1 := cell_futS (h.q.cell (i := 1) rfl) (hSl _ h.q.lt)
  have a0 := cell_futS i0 (hSl _ hgl)
  have a1 := cell_futS i1 (hSl _ hgl)
  have a2 := cell_futS i2 (hSl _ hgl)
  have a3 := cell_futS i3 (hSl _ hgl)
  have a4 := cell_futS i4 (hSl _ hgl)
  have b0 := cell_futS j0 (hSl _ hgl)
  have b1 := cell_futS j1 (hSl _ hgl)
  have b2 := cell_futS j2 (hSl _ hgl)
  have b3 := cell_futS j3 (hSl _ hgl)
  have b4 := cell_futS j4 (hSl _ hgl)
  clear h hxin hxic hxis hxih hxit hxjn hxjc hxjs hxjh hxjt i0 i1 i2 i3 i4 j0 j1 j2 j3 j4 hBg hgl hmc hcap
  go_enter Try.func59, Try.ntmps59
  go_wp2_with fail
  refine wp_region_MG (relS S) o_pqueue_Queue_knuth_candidate_before_1 (by kernel_rfl) (by kernel_rfl) (by intro c a d v w h; cases d <;> exact h) ?_; unfold o_pqueue_Queue_knuth_candidate_before_1
  iterate 14 (refine wpS_h rfl rfl (fun K hK => ?_); go_simp; refine hK _ _ ?_; clear hK K)
  refine wpG_two' rfl rfl (fun K hK => ?_) (fun K hK => ?_)
  · go_simp
    refine hK _ _ (.inr ((relS S).of_fut ((Fut.refl _).alloc _))) ?_
    clear hK K
    refine wpG_o rfl rfl (fun K hK => ?_)
    go_simp
    refine hK _ _ (.inr ((relS S).of_fut ((Fut.refl _).alloc _))) ?_
    clear hK K
    obtain ⟨p1, hp1⟩ : ∃ q, q = w.heap.size := ⟨_, rfl⟩
    obtain ⟨p2, hp2⟩ : ∃ q, q = w.heap.size + 1 := ⟨_, rfl⟩
    rw [← hp2, ← hp1]
    have HP1 := Lib.hid (show Blk (((w.alloc (.cells #[.int .i64 0, .int .i64 0, .int .i64 0, .int .i64 0, .int .i64 0] 101)).alloc (.cells #[.int .i64 0, .int .i64 0, .int .i64 0, .int .i64 0, .int .i64 0] 101)).drew) p1 101 #[.int .i64 0, .int .i64 0, .int .i64 0, .int .i64 0, .int .i64 0] from Blk.drew (Blk.alloc (by rw [hp1]; exact Blk.new w _ _) _))
    have HP2 := Lib.hid (show Blk (((w.alloc (.cells #[.int .i64 0, .int .i64 0, .int .i64 0, .int .i64 0, .int .i64 0] 101)).alloc (.cells #[.int .i64 0, .int .i64 0, .int .i64 0, .int .i64 0, .int .i64 0] 101)).drew) p2 101 #[.int .i64 0, .int .i64 0, .int .i64 0, .int .i64 0, .int .i64 0] from Blk.drew (heap_new' _ _ _ (by rw [hp2, World.size_alloc])))
    have HFS := Lib.hid (show Fut w (((w.alloc (.cells #[.int .i64 0, .int .i64 0, .int .i64 0, .int .i64 0, .int .i64 0] 101)).alloc (.cells #[.int .i64 0, .int .i64 0, .int .i64 0, .int .i64 0, .int .i64 0] 101)).drew) from (((Fut.refl w).alloc _).alloc _).drew)
    have HL1 := Lib.hid (show w.heap.size ≤ p1 from by omega)
    have HL2 := Lib.hid (show w.heap.size ≤ p2 from by omega)
    have HNE := Lib.hid (show p2 ≠ p1 from by omega)
    clear hp1 hp2
    generalize ((w.alloc (.cells #[.int .i64 0, .int .i64 0, .int .i64 0, .int .i64 0, .int .i64 0] 101)).alloc (.cells #[.int .i64 0, .int .i64 0, .int .i64 0, .int .i64 0, .int .i64 0] 101)).drew = ws at *
    refine wpG_o rfl rfl (fun K hK => ?_)
    have u0 := HP1.out.cell (i := 0) rfl
    have f0 := HP1.out.fz 0
    have u1 := HP1.out.cell (i := 1) rfl
    have f1 := HP1.out.fz 1
    have u2 := HP1.out.cell (i := 2) rfl
    have f2 := HP1.out.fz 2
    have u3 := HP1.out.cell (i := 3) rfl
    have f3 := HP1.out.fz 3
    have u4 := HP1.out.cell (i := 4) rfl
    have f4 := HP1.out.fz 4
    go_simp
    refine hK _ _ (.inr ((relS S).trans (futS_set _ _ _ (hSo _ HL1.out)) ((relS S).trans (futS_set _ _ _ (hSo _ HL1.out)) ((relS S).trans (futS_set _ _ _ (hSo _ HL1.out)) ((relS S).trans (futS_set _ _ _ (hSo _ HL1.out)) (futS_set _ _ _ (hSo _ HL1.out))))))) ?_
    clear hK K u0 f0 u1 f1 u2 f2 u3 f3 u4 f4
    have HR1 := Lib.hid (show Blk (((((ws.setCell ⟨p1, 0, none⟩ (.int .i64 xin)).setCell ⟨p1, 1, none⟩ (.int .i64 xic)).setCell ⟨p1, 2, none⟩ (.int .i64 xis)).setCell ⟨p1, 3, none⟩ (.int .i64 xih)).setCell ⟨p1, 4, none⟩ (.int .i64 xit)) p1 101 #[.int .i64 xin, .int .i64 xic, .int .i64 xis, .int .i64 xih, .int .i64 xit] from ((((HP1.out.set 0 _).set 1 _).set 2 _).set 3 _).set 4 _)
    have HR2 := Lib.hid (show Blk (((((ws.setCell ⟨p1, 0, none⟩ (.int .i64 xin)).setCell ⟨p1, 1, none⟩ (.int .i64 xic)).setCell ⟨p1, 2, none⟩ (.int .i64 xis)).setCell ⟨p1, 3, none⟩ (.int .i64 xih)).setCell ⟨p1, 4, none⟩ (.int .i64 xit)) p2 101 #[.int .i64 0, .int .i64 0, .int .i64 0, .int .i64 0, .int .i64 0] from ((((HP2.out.setOther (a := ⟨p1, 0, none⟩) HNE.out _).setOther (a := ⟨p1, 1, none⟩) HNE.out _).setOther (a := ⟨p1, 2, none⟩) HNE.out _).setOther (a := ⟨p1, 3, none⟩) HNE.out _).setOther (a := ⟨p1, 4, none⟩) HNE.out _)
    have HF2 := Lib.hid (show Fut w (((((ws.setCell ⟨p1, 0, none⟩ (.int .i64 xin)).setCell ⟨p1, 1, none⟩ (.int .i64 xic)).setCell ⟨p1, 2, none⟩ (.int .i64 xis)).setCell ⟨p1, 3, none⟩ (.int .i64 xih)).setCell ⟨p1, 4, none⟩ (.int .i64 xit)) from ((((HFS.out.setCell (p := ⟨p1, 0, none⟩) HL1.out _).setCell (p := ⟨p1, 1, none⟩) HL1.out _).setCell (p := ⟨p1, 2, none⟩) HL1.out _).setCell (p := ⟨p1, 3, none⟩) HL1.out _).setCell (p := ⟨p1, 4, none⟩) HL1.out _)
    generalize (((((ws.setCell ⟨p1, 0, none⟩ (.int .i64 xin)).setCell ⟨p1, 1, none⟩ (.int .i64 xic)).setCell ⟨p1, 2, none⟩ (.int .i64 xis)).setCell ⟨p1, 3, none⟩ (.int .i64 xih)).setCell ⟨p1, 4, none⟩ (.int .i64 xit)) = wt at *
    clear HP1 HP2 HFS
    refine wpG_o rfl rfl (fun K hK => ?_)
    have u0 := HR2.out.cell (i := 0) rfl
    have f0 := HR2.out.fz 0
    have u1 := HR2.out.cell (i := 1) rfl
    have f1 := HR2.out.fz 1
    have u2 := HR2.out.cell (i := 2) rfl
    have f2 := HR2.out.fz 2
    have u3 := HR2.out.cell (i := 3) rfl
    have f3 := HR2.out.fz 3
    have u4 := HR2.out.cell (i := 4) rfl
    have f4 := HR2.out.fz 4
    go_simp
    refine hK _ _ (.inr ((relS S).trans (futS_set _ _ _ (hSo _ HL2.out)) ((relS S).trans (futS_set _ _ _ (hSo _ HL2.out)) ((relS S).trans (futS_set _ _ _ (hSo _ HL2.out)) ((relS S).trans (futS_set _ _ _ (hSo _ HL2.out)) (futS_set _ _ _ (hSo _ HL2.out))))))) ?_
    clear hK K u0 f0 u1 f1 u2 f2 u3 f3 u4 f4
    have HT2 := Lib.hid (show Blk (((((wt.setCell ⟨p2, 0, none⟩ (.int .i64 xjn)).setCell ⟨p2, 1, none⟩ (.int .i64 xjc)).setCell ⟨p2, 2, none⟩ (.int .i64 xjs)).setCell ⟨p2, 3, none⟩ (.int .i64 xjh)).setCell ⟨p2, 4, none⟩ (.int .i64 xjt)) p2 101 #[.int .i64 xjn, .int .i64 xjc, .int .i64 xjs, .int .i64 xjh, .int .i64 xjt] from ((((HR2.out.set 0 _).set 1 _).set 2 _).set 3 _).set 4 _)
    have HT1 := Lib.hid (show Blk (((((wt.setCell ⟨p2, 0, none⟩ (.int .i64 xjn)).setCell ⟨p2, 1, none⟩ (.int .i64 xjc)).setCell ⟨p2, 2, none⟩ (.int .i64 xjs)).setCell ⟨p2, 3, none⟩ (.int .i64 xjh)).setCell ⟨p2, 4, none⟩ (.int .i64 xjt)) p1 101 #[.int .i64 xin, .int .i64 xic, .int .i64 xis, .int .i64 xih, .int .i64 xit] from ((((HR1.out.setOther (a := ⟨p2, 0, none⟩) (Ne.symm HNE.out) _).setOther (a := ⟨p2, 1, none⟩) (Ne.symm HNE.out) _).setOther (a := ⟨p2, 2, none⟩) (Ne.symm HNE.out) _).setOther (a := ⟨p2, 3, none⟩) (Ne.symm HNE.out) _).setOther (a := ⟨p2, 4, none⟩) (Ne.symm HNE.out) _)
    have HFZ := Lib.hid (show Fut w (((((wt.setCell ⟨p2, 0, none⟩ (.int .i64 xjn)).setCell ⟨p2, 1, none⟩ (.int .i64 xjc)).setCell ⟨p2, 2, none⟩ (.int .i64 xjs)).setCell ⟨p2, 3, none⟩ (.int .i64 xjh)).setCell ⟨p2, 4, none⟩ (.int .i64 xjt)) from ((((HF2.out.setCell (p := ⟨p2, 0, none⟩) HL2.out _).setCell (p := ⟨p2, 1, none⟩) HL2.out _).setCell (p := ⟨p2, 2, none⟩) HL2.out _).setCell (p := ⟨p2, 3, none⟩) HL2.out _).setCell (p := ⟨p2, 4, none⟩) HL2.out _)
    generalize (((((wt.setCell ⟨p2, 0, none⟩ (.int .i64 xjn)).setCell ⟨p2, 1, none⟩ (.int .i64 xjc)).setCell ⟨p2, 2, none⟩ (.int .i64 xjs)).setCell ⟨p2, 3, none⟩ (.int .i64 xjh)).setCell ⟨p2, 4, none⟩ (.int .i64 xjt)) = wz at *
    clear HR1 HR2 HF2 HL1 HL2 HNE
    refine wpG_nil ?_
    clear hSl hSo x0 x1 a0 a1 a2 a3 a4 b0 b1 b2 b3 b4
    have x0 := cell_fut ((HQ.out.q.fut HFZ.out).cell (i := 0) rfl)
    have a0 := cell_fut (HT1.out.cell (i := 0) rfl)
    have b0 := cell_fut (HT2.out.cell (i := 0) rfl)
    have a1 := cell_fut (HT1.out.cell (i := 1) rfl)
    have b1 := cell_fut (HT2.out.cell (i := 1) rfl)
    have a2 := cell_fut (HT1.out.cell (i := 2) rfl)
    have b2 := cell_fut (HT2.out.cell (i := 2) rfl)
    have a3 := cell_fut (HT1.out.cell (i := 3) rfl)
    have b3 := cell_fut (HT2.out.cell (i := 3) rfl)
    have a4 := cell_fut (HT1.out.cell (i := 4) rfl)
    have b4 := cell_fut (HT2.out.cell (i := 4) rfl)
    go_wp2_with fail
    refine wp_region_M o_pqueue_Queue_knuth_candidate_before_2 (by kernel_rfl) (by kernel_rfl) (by intro c a d v w h; cases d <;> exact h) ?_; unfold o_pqueue_Queue_knuth_candidate_before_2
    iterate 8 (refine wpF_h rfl rfl (fun K hK => ?_); go_simp; refine hK _ _ ?_; clear hK K)
    refine wpF_o rfl rfl (fun K hK => ?_)
    go_simp
    go_at_call 40
    refine (cless_any xin xjn ⟨xic, xis⟩ ⟨xjc, xjs⟩ _).mono ?_
    rintro r w1 ⟨rfl, hb1⟩
    refine hK _ _ (.inr hb1) ?_
    clear hK K
    obtain ⟨d1, o1, rfl⟩ := fut_of (show Fut wz w1 from (Fut.refl wz).drew.trans hb1)
    clear hb1
    refine wpF_nil ?_
    generalize hc1 : ltV ⟨xic, xis⟩ ⟨xjc, xjs⟩ = l1
    have HC1 := Lib.hid hc1
    clear hc1
    cases l1 with
    | true =>
      go_wp2_with fail
      go_ret
      refine ⟨?_, HFZ.out.trans (Fut.fut _ _ _)⟩
      rw [show bef (H i) (H j) = true from by unfold bef; rw [HVI.out, HVJ.out, HC1.out]; rfl]
      rfl
    | false =>
      go_wp2_with fail
      refine wp_region_M o_pqueue_Queue_knuth_candidate_before_4 (by kernel_rfl) (by kernel_rfl) (by intro c a d v w h; cases d <;> exact h) ?_; unfold o_pqueue_Queue_knuth_candidate_before_4
      iterate 8 (refine wpF_h rfl rfl (fun K hK => ?_); go_simp; refine hK _ _ ?_; clear hK K)
      refine wpF_o rfl rfl (fun K hK => ?_)
      go_simp
      go_at_call 40
      refine (cless_any xjn xin ⟨xjc, xjs⟩ ⟨xic, xis⟩ _).mono ?_
      rintro r w1 ⟨rfl, hb1⟩
      refine hK _ _ (.inr hb1) ?_
      clear hK K
      have hf1 : Fut wz w1 := (Fut.fut wz _ _).trans hb1
      clear hb1
      generalize hc2 : ltV ⟨xjc, xjs⟩ ⟨xic, xis⟩ = l2
      have HC2 := Lib.hid hc2
      clear hc2
      cases l2 with
      | true =>
        iterate 2 (refine wpF_h rfl rfl (fun K hK => ?_); go_simp; refine hK _ _ ?_; clear hK K)
        iterate 5 (refine wpF_hs2 rfl rfl (fun K hK => ?_); go_simp; refine hK _ _ ?_; clear hK K)
        iterate 2 (refine wpF_h rfl rfl (fun K hK => ?_); go_simp; refine hK _ _ ?_; clear hK K)
        refine wpF_nil ?_
        go_wp2_with fail
        go_ret
        refine ⟨?_, HFZ.out.trans hf1⟩
        rw [show bef (H i) (H j) = false from by unfold bef; rw [HVI.out, HVJ.out, HC1.out, HC2.out]; rfl]
        rfl
      | false =>
        iterate 9 (refine wpF_h rfl rfl (fun K hK => ?_); go_simp; refine hK _ _ ?_; clear hK K)
        refine wpF_nil ?_
        go_wp2_with fail
        go_ret
        refine ⟨?_, HFZ.out.trans hf1⟩
        rw [show bef (H i) (H j) = decide (xit < xjt) from by unfold bef; rw [HVI.out, HVJ.out, HC1.out, HC2.out, ← HTI.out, ← HTJ.out]; rfl]
        rfl
  · go_simp
    refine hK _ _ (.inr ((relS S).of_fut ((Fut.refl _).alloc _))) ?_
    clear hK K
    refine wpG_o rfl rfl (fun K hK => ?_)
    go_simp
    refine hK _ _ (.inr ((relS S).of_fut ((Fut.refl _).alloc _))) ?_
    clear hK K
    obtain ⟨p2, hp2⟩ : ∃ q, q = w.heap.size := ⟨_, rfl⟩
    obtain ⟨p1, hp1⟩ : ∃ q, q = w.heap.size + 1 := ⟨_, rfl⟩
    rw [← hp1, ← hp2]
    have HP2 := Lib.hid (show Blk (((w.alloc (.cells #[.int .i64 0, .int .i64 0, .int .i64 0, .int .i64 0, .int .i64 0] 101)).alloc (.cells #[.int .i64 0, .int .i64 0, .int .i64 0, .int .i64 0, .int .i64 0] 101)).drew) p2 101 #[.int .i64 0, .int .i64 0, .int .i64 0, .int .i64 0, .int .i64 0] from Blk.drew (Blk.alloc (by rw [hp2]; exact Blk.new w _ _) _))
    have HP1 := Lib.hid (show Blk (((w.alloc (.cells #[.int .i64 0, .int .i64 0, .int .i64 0, .int .i64 0, .int .i64 0] 101)).alloc (.cells #[.int .i64 0, .int .i64 0, .int .i64 0, .int .i64 0, .int .i64 0] 101)).drew) p1 101 #[.int .i64 0, .int .i64 0, .int .i64 0, .int .i64 0, .int .i64 0] from Blk.drew (heap_new' _ _ _ (by rw [hp1, World.size_alloc])))
    have HFS := Lib.hid (show Fut w (((w.alloc (.cells #[.int .i64 0, .int .i64 0, .int .i64 0, .int .i64 0, .int .i64 0] 101)).alloc (.cells #[.int .i64 0, .int .i64 0, .int .i64 0, .int .i64 0, .int .i64 0] 101)).drew) from (((Fut.refl w).alloc _).alloc _).drew)
    have HL1 := Lib.hid (show w.heap.size ≤ p1 from by omega)
    have HL2 := Lib.hid (show w.heap.size ≤ p2 from by omega)
    have HNE := Lib.hid (show p2 ≠ p1 from by omega)
    clear hp1 hp2
    generalize ((w.alloc (.cells #[.int .i64 0, .int .i64 0, .int .i64 0, .int .i64 0, .int .i64 0] 101)).alloc (.cells #[.int .i64 0, .int .i64 0, .int .i64 0, .int .i64 0, .int .i64 0] 101)).drew = ws at *
    refine wpG_o rfl rfl (fun K hK => ?_)
    have u0 := HP1.out.cell (i := 0) rfl
    have f0 := HP1.out.fz 0
    have u1 := HP1.out.cell (i := 1) rfl
    have f1 := HP1.out.fz 1
    have u2 := HP1.out.cell (i := 2) rfl
    have f2 := HP1.out.fz 2
    have u3 := HP1.out.cell (i := 3) rfl
    have f3 := HP1.out.fz 3
    have u4 := HP1.out.cell (i := 4) rfl
    have f4 := HP1.out.fz 4
    go_simp
    refine hK _ _ (.inr ((relS S).trans (futS_set _ _ _ (hSo _ HL1.out)) ((relS S).trans (futS_set _ _ _ (hSo _ HL1.out)) ((relS S).trans (futS_set _ _ _ (hSo _ HL1.out)) ((relS S).trans (futS_set _ _ _ (hSo _ HL1.out)) (futS_set _ _ _ (hSo _ HL1.out))))))) ?_
    clear hK K u0 f0 u1 f1 u2 f2 u3 f3 u4 f4
    have HR1 := Lib.hid (show Blk (((((ws.setCell ⟨p1, 0, none⟩ (.int .i64 xin)).setCell ⟨p1, 1, none⟩ (.int .i64 xic)).setCell ⟨p1, 2, none⟩ (.int .i64 xis)).setCell ⟨p1, 3, none⟩ (.int .i64 xih)).setCell ⟨p1, 4, none⟩ (.int .i64 xit)) p1 101 #[.int .i64 xin, .int .i64 xic, .int .i64 xis, .int .i64 xih, .int .i64 xit] from ((((HP1.out.set 0 _).set 1 _).set 2 _).set 3 _).set 4 _)
    have HR2 := Lib.hid (show Blk (((((ws.setCell ⟨p1, 0, none⟩ (.int .i64 xin)).setCell ⟨p1, 1, none⟩ (.int .i64 xic)).setCell ⟨p1, 2, none⟩ (.int .i64 xis)).setCell ⟨p1, 3, none⟩ (.int .i64 xih)).setCell ⟨p1, 4, none⟩ (.int .i64 xit)) p2 101 #[.int .i64 0, .int .i64 0, .int .i64 0, .int .i64 0, .int .i64 0] from ((((HP2.out.setOther (a := ⟨p1, 0, none⟩) HNE.out _).setOther (a := ⟨p1, 1, none⟩) HNE.out _).setOther (a := ⟨p1, 2, none⟩) HNE.out _).setOther (a := ⟨p1, 3, none⟩) HNE.out _).setOther (a := ⟨p1, 4, none⟩) HNE.out _)
    have HF2 := Lib.hid (show Fut w (((((ws.setCell ⟨p1, 0, none⟩ (.int .i64 xin)).setCell ⟨p1, 1, none⟩ (.int .i64 xic)).setCell ⟨p1, 2, none⟩ (.int .i64 xis)).setCell ⟨p1, 3, none⟩ (.int .i64 xih)).setCell ⟨p1, 4, none⟩ (.int .i64 xit)) from ((((HFS.out.setCell (p := ⟨p1, 0, none⟩) HL1.out _).setCell (p := ⟨p1, 1, none⟩) HL1.out _).setCell (p := ⟨p1, 2, none⟩) HL1.out _).setCell (p := ⟨p1, 3, none⟩) HL1.out _).setCell (p := ⟨p1, 4, none⟩) HL1.out _)
    generalize (((((ws.setCell ⟨p1, 0, none⟩ (.int .i64 xin)).setCell ⟨p1, 1, none⟩ (.int .i64 xic)).setCell ⟨p1, 2, none⟩ (.int .i64 xis)).setCell ⟨p1, 3, none⟩ (.int .i64 xih)).setCell ⟨p1, 4, none⟩ (.int .i64 xit)) = wt at *
    clear HP1 HP2 HFS
    refine wpG_o rfl rfl (fun K hK => ?_)
    have u0 := HR2.out.cell (i := 0) rfl
    have f0 := HR2.out.fz 0
    have u1 := HR2.out.cell (i := 1) rfl
    have f1 := HR2.out.fz 1
    have u2 := HR2.out.cell (i := 2) rfl
    have f2 := HR2.out.fz 2
    have u3 := HR2.out.cell (i := 3) rfl
    have f3 := HR2.out.fz 3
    have u4 := HR2.out.cell (i := 4) rfl
    have f4 := HR2.out.fz 4
    go_simp
    refine hK _ _ (.inr ((relS S).trans (futS_set _ _ _ (hSo _ HL2.out)) ((relS S).trans (futS_set _ _ _ (hSo _ HL2.out)) ((relS S).trans (futS_set _ _ _ (hSo _ HL2.out)) ((relS S).trans (futS_set _ _ _ (hSo _ HL2.out)) (futS_set _ _ _ (hSo _ HL2.out))))))) ?_
    clear hK K u0 f0 u1 f1 u2 f2 u3 f3 u4 f4
    have HT2 := Lib.hid (show Blk (((((wt.setCell ⟨p2, 0, none⟩ (.int .i64 xjn)).setCell ⟨p2, 1, none⟩ (.int .i64 xjc)).setCell ⟨p2, 2, none⟩ (.int .i64 xjs)).setCell ⟨p2, 3, none⟩ (.int .i64 xjh)).setCell ⟨p2, 4, none⟩ (.int .i64 xjt)) p2 101 #[.int .i64 xjn, .int .i64 xjc, .int .i64 xjs, .int .i64 xjh, .int .i64 xjt] from ((((HR2.out.set 0 _).set 1 _).set 2 _).set 3 _).set 4 _)
    have HT1 := Lib.hid (show Blk (((((wt.setCell ⟨p2, 0, none⟩ (.int .i64 xjn)).setCell ⟨p2, 1, none⟩ (.int .i64 xjc)).setCell ⟨p2, 2, none⟩ (.int .i64 xjs)).setCell ⟨p2, 3, none⟩ (.int .i64 xjh)).setCell ⟨p2, 4, none⟩ (.int .i64 xjt)) p1 101 #[.int .i64 xin, .int .i64 xic, .int .i64 xis, .int .i64 xih, .int .i64 xit] from ((((HR1.out.setOther (a := ⟨p2, 0, none⟩) (Ne.symm HNE.out) _).setOther (a := ⟨p2, 1, none⟩) (Ne.symm HNE.out) _).setOther (a := ⟨p2, 2, none⟩) (Ne.symm HNE.out) _).setOther (a := ⟨p2, 3, none⟩) (Ne.symm HNE.out) _).setOther (a := ⟨p2, 4, none⟩) (Ne.symm HNE.out) _)
    have HFZ := Lib.hid (show Fut w (((((wt.setCell ⟨p2, 0, none⟩ (.int .i64 xjn)).setCell ⟨p2, 1, none⟩ (.int .i64 xjc)).setCell ⟨p2, 2, none⟩ (.int .i64 xjs)).setCell ⟨p2, 3, none⟩ (.int .i64 xjh)).setCell ⟨p2, 4, none⟩ (.int .i64 xjt)) from ((((HF2.out.setCell (p := ⟨p2, 0, none⟩) HL2.out _).setCell (p := ⟨p2, 1, none⟩) HL2.out _).setCell (p := ⟨p2, 2, none⟩) HL2.out _).setCell (p := ⟨p2, 3, none⟩) HL2.out _).setCell (p := ⟨p2, 4, none⟩) HL2.out _)
    generalize (((((wt.setCell ⟨p2, 0, none⟩ (.int .i64 xjn)).setCell ⟨p2, 1, none⟩ (.int .i64 xjc)).setCell ⟨p2, 2, none⟩ (.int .i64 xjs)).setCell ⟨p2, 3, none⟩ (.int .i64 xjh)).setCell ⟨p2, 4, none⟩ (.int .i64 xjt)) = wz at *
    clear HR1 HR2 HF2 HL1 HL2 HNE
    refine wpG_nil ?_
    clear hSl hSo x0 x1 a0 a1 a2 a3 a4 b0 b1 b2 b3 b4
    have x0 := cell_fut ((HQ.out.q.fut HFZ.out).cell (i := 0) rfl)
    have a0 := cell_fut (HT1.out.cell (i := 0) rfl)
    have b0 := cell_fut (HT2.out.cell (i := 0) rfl)
    have a1 := cell_fut (HT1.out.cell (i := 1) rfl)
    have b1 := cell_fut (HT2.out.cell (i := 1) rfl)
    have a2 := cell_fut (HT1.out.cell (i := 2) rfl)
    have b2 := cell_fut (HT2.out.cell (i := 2) rfl)
    have a3 := cell_fut (HT1.out.cell (i := 3) rfl)
    have b3 := cell_fut (HT2.out.cell (i := 3) rfl)
    have a4 := cell_fut (HT1.out.cell (i := 4) rfl)
    have b4 := cell_fut (HT2.out.cell (i := 4) rfl)
    go_wp2_with fail
    refine wp_region_M o_pqueue_Queue_knuth_candidate_before_2 (by kernel_rfl) (by kernel_rfl) (by intro c a d v w h; cases d <;> exact h) ?_; unfold o_pqueue_Queue_knuth_candidate_before_2
    iterate 8 (refine wpF_h rfl rfl (fun K hK => ?_); go_simp; refine hK _ _ ?_; clear hK K)
    refine wpF_o rfl rfl (fun K hK => ?_)
    go_simp
    go_at_call 40
    refine (cless_any xin xjn ⟨xic, xis⟩ ⟨xjc, xjs⟩ _).mono ?_
    rintro r w1 ⟨rfl, hb1⟩
    refine hK _ _ (.inr hb1) ?_
    clear hK K
    obtain ⟨d1, o1, rfl⟩ := fut_of (show Fut wz w1 from (Fut.refl wz).drew.trans hb1)
    clear hb1
    refine wpF_nil ?_
    generalize hc1 : ltV ⟨xic, xis⟩ ⟨xjc, xjs⟩ = l1
    have HC1 := Lib.hid hc1
    clear hc1
    cases l1 with
    | true =>
      go_wp2_with fail
      go_ret
      refine ⟨?_, HFZ.out.trans (Fut.fut _ _ _)⟩
      rw [show bef (H i) (H j) = true from by unfold bef; rw [HVI.out, HVJ.out, HC1.out]; rfl]
      rfl
    | false =>
      go_wp2_with fail
      refine wp_region_M o_pqueue_Queue_knuth_candidate_before_4 (by kernel_rfl) (by kernel_rfl) (by intro c a d v w h; cases d <;> exact h) ?_; unfold o_pqueue_Queue_knuth_candidate_before_4
      iterate 8 (refine wpF_h rfl rfl (fun K hK => ?_); go_simp; refine hK _ _ ?_; clear hK K)
      refine wpF_o rfl rfl (fun K hK => ?_)
      go_simp
      go_at_call 40
      refine (cless_any xjn xin ⟨xjc, xjs⟩ ⟨xic, xis⟩ _).mono ?_
      rintro r w1 ⟨rfl, hb1⟩
      refine hK _ _ (.inr hb1) ?_
      clear hK K
      have hf1 : Fut wz w1 := (Fut.fut wz _ _).trans hb1
      clear hb1
      generalize hc2 : ltV ⟨xjc, xjs⟩ ⟨xic, xis⟩ = l2
      have HC2 := Lib.hid hc2
      clear hc2
      cases l2 with
      | true =>
        iterate 2 (refine wpF_h rfl rfl (fun K hK => ?_); go_simp; refine hK _ _ ?_; clear hK K)
        iterate 5 (refine wpF_hs2 rfl rfl (fun K hK => ?_); go_simp; refine hK _ _ ?_; clear hK K)
        iterate 2 (refine wpF_h rfl rfl (fun K hK => ?_); go_simp; refine hK _ _ ?_; clear hK K)
        refine wpF_nil ?_
        go_wp2_with fail
        go_ret
        refine ⟨?_, HFZ.out.trans hf1⟩
        rw [show bef (H i) (H j) = false from by unfold bef; rw [HVI.out, HVJ.out, HC1.out, HC2.out]; rfl]
        rfl
      | false =>
        iterate 9 (refine wpF_h rfl rfl (fun K hK => ?_); go_simp; refine hK _ _ ?_; clear hK K)
        refine wpF_nil ?_
        go_wp2_with fail
        go_ret
        refine ⟨?_, HFZ.out.trans hf1⟩
        rw [show bef (H i) (H j) = decide (xit < xjt) from by unfold bef; rw [HVI.out, HVJ.out, HC1.out, HC2.out, ← HTI.out, ← HTJ.out]; rfl]
        rfl
end Go.Proofs.Ytleapckcihcpaaa
