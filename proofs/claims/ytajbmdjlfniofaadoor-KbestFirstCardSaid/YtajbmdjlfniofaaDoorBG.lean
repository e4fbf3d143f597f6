/-
  Texts joined: The solver: settle; The solver with the row of chosen hyperedges and the hypergraph's own block; Solve.
-/
import Derived.Test.YtajbmdjlfniofaaDoorBF
import Derived.Test.YtajbmdjlfniofaaDoorBB
/-
  The solver: settle.
-/
namespace Go.Proofs.YtajbmdjlfniofaaDoor
open Go.RowKit Go.Deep PK
attribute [local go_sem] Oper.lit Oper.litS fut_fut fut_drew World.cell?_alloc_some
attribute [local go_sem] fut_base_drew
theorem sq_lo {s : SB} {lo : Nat} {v : Value} {H : Nat → EN} {m nx : Nat} {w : World} (hb : SBok s lo) (hq : QS w s.qb s.mb s.B v H m nx) : ∀ k, SQ s.qb s.mb v k = true → lo ≤ k := by
 intro k hk
 simp only [SQ, Bool.or_eq_true, beq_iff_eq] at hk
 obtain ⟨hlo, hhi, _⟩ := hb
 rcases hk with (hk | hk) | hk
 ·
  omega
 ·
  omega
 ·
  have := (World.ownsRow.lt hq.own k hk).1
  omega
theorem own_le {w : World} {B sz n : Nat} {E : TypeId} {v : Value} {xs : List Value} (h : w.ownsRow B E sz v n xs) : n ≤ maxLen := by
 obtain ⟨_, ⟨_, hn⟩ | ⟨g, cap, cur, _, _, _, h3, h4, _⟩⟩ := h
 ·
  omega
 ·
  omega
/-- a block that is none of the solver's -/
def SB.oth (s : SB) (b : Nat) : Prop := b < s.B ∧ b ≠ s.sb ∧ b ≠ s.vb ∧ b ≠ s.tb ∧ b ≠ s.ob ∧ b ≠ s.ub ∧ b ≠ s.qb ∧ b ≠ s.mb
/-- the solver's state, whole; X: what the other blocks before B hold -/
structure SW (X : Nat → Option Obj) (s : SB) (N n : Nat) (A : Option Addr) (c : Nat) (w0 wr : World) (V : Nat → VV) (T : Nat → Bool) (O : Nat → Nat) (U : Nat → Value) (L : Nat → List Nat) (v : Value) (H : Nat → EN) (m nx : Nat) : Prop where
 s1 : S1 s N n A c wr V T O U L
 q : QS wr s.qb s.mb s.B v H m nx
 h : HeapOK bef H m
 f : Fut w0 wr
 kp : ∀ b, s.oth b → wr.heap[b]? = X b
theorem SW.go {X : Nat → Option Obj} {s : SB} {N n : Nat} {A : Option Addr} {c : Nat} {w0 wr w2 : World} {V : Nat → VV} {T : Nat → Bool} {O : Nat → Nat} {U : Nat → Value} {L : Nat → List Nat} {v : Value} {H : Nat → EN} {m nx : Nat} (h : SW X s N n A c w0 wr V T O U L v H m nx) (hf : Fut wr w2) : SW X s N n A c w0 w2 V T O U L v H m nx :=
 ⟨h.s1.go hf, h.q.go hf, h.h, h.f.trans hf, fun b hb => (hf.block b (Nat.lt_of_lt_of_le hb.1 h.q.sz)).trans (h.kp b hb)⟩
/-- a queue kept while a block that is none of its own is written -/
theorem QS.setO {w : World} {s : SB} {lo : Nat} (_hb : SBok s lo) {v : Value} {H : Nat → EN} {m nx : Nat} (h : QS w s.qb s.mb s.B v H m nx) {a : Addr} (h1 : a.block < s.B) (h2 : a.block ≠ s.qb) (h3 : a.block ≠ s.mb) (u : Value) : QS (w.setCell a u) s.qb s.mb s.B v H m nx :=
 h.setOther (fun k hk e => by
  subst e
  simp only [SQ, Bool.or_eq_true, beq_iff_eq] at hk
  rcases hk with (hk | hk) | hk
  ·
   exact h2 hk
  ·
   exact h3 hk
  ·
   have := (World.ownsRow.lt h.own _ hk).1
   omega) u
theorem Uses.setO {w : World} {B u n : Nat} {U : Nat → Value} {L : Nat → List Nat} (h : Uses w B u n U L) {a : Addr} (ha : a.block < B) (hu : a.block ≠ u) (x : Value) : Uses (w.setCell a x) B u n U L :=
 h.futS (S := fun k => k == a.block) (futS_set _ _ _ (by simp)) (by simp; exact fun e => hu e.symm) (fun i hi g hg => by
  have := (World.ownsRow.lt (h.own i hi) g hg).1
  simp
  omega)
section
variable {X : Nat → Option Obj} {s : SB} {N n : Nat} {A : Option Addr} {c : Nat} {w0 wr w2 : World} {V : Nat → VV} {T : Nat → Bool} {O : Nat → Nat} {U : Nat → Value} {L : Nat → List Nat} {v : Value} {H : Nat → EN} {m nx : Nat}
theorem SW.setT (h : SW X s N n A c w0 wr V T O U L v H m nx) (hb : SBok s w0.heap.size) (i : Nat) (x : Bool) : SW X s N n A c w0 (wr.setCell ⟨s.tb, i, none⟩ (.bool x)) V (upd T i x) O U L v H m nx :=
 ⟨⟨h.s1.sv.setOther (a := ⟨s.tb, i, none⟩) hb.n1.2.1 _, World.rowIs.setOther h.s1.v (a := ⟨s.tb, i, none⟩) hb.n2.1 _, RowB.set h.s1.t i x, World.rowIs.setOther h.s1.o (a := ⟨s.tb, i, none⟩) (Ne.symm hb.n3.1) _, h.s1.u.setO (a := ⟨s.tb, i, none⟩) hb.hi.2.2.1 hb.n3.2.1 _⟩, h.q.setO hb (a := ⟨s.tb, i, none⟩) hb.hi.2.2.1 hb.n3.2.2.1 hb.n3.2.2.2 _, h.h, h.f.setCell (p := ⟨s.tb, i, none⟩) hb.lo.2.2.1 _, fun b h9 => (blk_setCell_other _ ⟨s.tb, i, none⟩ _ _ h9.2.2.2.1).trans (h.kp b h9)⟩
theorem SW.setO (h : SW X s N n A c w0 wr V T O U L v H m nx) (hb : SBok s w0.heap.size) (i x : Nat) : SW X s N n A c w0 (wr.setCell ⟨s.ob, i, none⟩ (nv x)) V T (upd O i x) U L v H m nx :=
 ⟨⟨h.s1.sv.setOther (a := ⟨s.ob, i, none⟩) hb.n1.2.2.1 _, World.rowIs.setOther h.s1.v (a := ⟨s.ob, i, none⟩) hb.n2.2.1 _, World.rowIs.setOther h.s1.t (a := ⟨s.ob, i, none⟩) hb.n3.1 _, RowN.set h.s1.o i x, h.s1.u.setO (a := ⟨s.ob, i, none⟩) hb.hi.2.2.2.1 hb.n4.1 _⟩, h.q.setO hb (a := ⟨s.ob, i, none⟩) hb.hi.2.2.2.1 hb.n4.2.1 hb.n4.2.2 _, h.h, h.f.setCell (p := ⟨s.ob, i, none⟩) hb.lo.2.2.2.1 _, fun b h9 => (blk_setCell_other _ ⟨s.ob, i, none⟩ _ _ h9.2.2.2.2.1).trans (h.kp b h9)⟩
theorem SW.setV (h : SW X s N n A c w0 wr V T O U L v H m nx) (hb : SBok s w0.heap.size) (i : Nat) (x : VV) : SW X s N n A c w0 ((wr.setCell ⟨s.vb, i * 2, none⟩ (.int .i64 x.c)).setCell ⟨s.vb, i * 2 + 1, none⟩ (.int .i64 x.s)) (upd V i x) T O U L v H m nx :=
 ⟨⟨(h.s1.sv.setOther (a := ⟨s.vb, i * 2, none⟩) hb.n1.1 _).setOther (a := ⟨s.vb, i * 2 + 1, none⟩) hb.n1.1 _, h.s1.v.set i x, World.rowIs.setOther (World.rowIs.setOther h.s1.t (a := ⟨s.vb, i * 2, none⟩) (Ne.symm hb.n2.1) _) (a := ⟨s.vb, i * 2 + 1, none⟩) (Ne.symm hb.n2.1) _, World.rowIs.setOther (World.rowIs.setOther h.s1.o (a := ⟨s.vb, i * 2, none⟩) (Ne.symm hb.n2.2.1) _) (a := ⟨s.vb, i * 2 + 1, none⟩) (Ne.symm hb.n2.2.1) _, (h.s1.u.setO (a := ⟨s.vb, i * 2, none⟩) hb.hi.2.1 hb.n2.2.2.1 _).setO (a := ⟨s.vb, i * 2 + 1, none⟩) hb.hi.2.1 hb.n2.2.2.1 _⟩,
  (h.q.setO hb (a := ⟨s.vb, i * 2, none⟩) hb.hi.2.1 hb.n2.2.2.2.1 hb.n2.2.2.2.2 _).setO hb (a := ⟨s.vb, i * 2 + 1, none⟩) hb.hi.2.1 hb.n2.2.2.2.1 hb.n2.2.2.2.2 _, h.h, (h.f.setCell (p := ⟨s.vb, i * 2, none⟩) hb.lo.2.1 _).setCell (p := ⟨s.vb, i * 2 + 1, none⟩) hb.lo.2.1 _, fun b h9 => (blk_setCell_other _ ⟨s.vb, i * 2 + 1, none⟩ _ _ h9.2.2.1).trans ((blk_setCell_other _ ⟨s.vb, i * 2, none⟩ _ _ h9.2.2.1).trans (h.kp b h9))⟩
/-- behind an operation of the queue -/
theorem SW.queue (h : SW X s N n A c w0 wr V T O U L v H m nx) (hb : SBok s w0.heap.size) {v' : Value} {H' : Nat → EN} {m' nx' : Nat} (hf : FutS (SQ s.qb s.mb v) wr w2) (hq : QS w2 s.qb s.mb s.B v' H' m' nx') (hh : HeapOK bef H' m') : SW X s N n A c w0 w2 V T O U L v' H' m' nx' :=
 ⟨h.s1.queue hb h.q hf, hq, hh, hf.fut h.f (sq_lo hb h.q), fun b h9 => (hf.block b (Nat.lt_of_lt_of_le h9.1 h.q.sz) (by
  cases e : SQ s.qb s.mb v b with
  | false => rfl
  | true =>
   exfalso
   simp only [SQ, Bool.or_eq_true, beq_iff_eq] at e
   rcases e with (e | e) | e
   ·
    exact h9.2.2.2.2.2.2.1 e
   ·
    exact h9.2.2.2.2.2.2.2 e
   ·
    have := (World.ownsRow.lt h.q.own b e).1
    have := h9.1
    omega)).trans (h.kp b h9)⟩
end
set_option maxHeartbeats 6400000 in
theorem settle_any {X : Nat → Option Obj} {s : SB} {N n : Nat} {A : Option Addr} {c : Nat} {w0 wr : World} {V : Nat → VV} {T : Nat → Bool} {O : Nat → Nat} {U : Nat → Value} {L : Nat → List Nat} {v : Value} {H : Nat → EN} {m nx : Nat} {es : List EI}
  (hb : SBok s w0.heap.size) (hN : N ≤ 1048576) (hl : es.length = n) (hn : n ≤ 1000000) (hvd : ∀ e ∈ es, okE (N : Int) e = true) (htl : ∀ e ∈ es, e.t.length ≤ 1000000) (hR : RdE w0 A es) (hes : ∀ e ∈ EEs es, PK.okE e) (hL : UseC (EEs es) L) (hLb : ∀ v, ∀ i ∈ L v, i < n)
  (h : SW X s N n A c w0 wr V T O U L v H m nx) (u : Nat) (x : VV) (hu : u < N) (M : Nat) (D : List Nat) (hj : SJ (EEs es) u (L u) 0 M (upd T u true) (upd V u x) O (agL H m) D x m nx) :
  Calls Tryd.prog 42 #[.pointer (some ⟨s.sb, 0, none⟩), cv (u : Int) x] wr fun r w' => r = .returned (.tuple #[]) ∧ ∃ O' v' H' m' nx', SW X s N n A c w0 w' (upd V u x) (upd T u true) O' U L v' H' m' nx' ∧ MI (EEs es) (upd T u true) (upd V u x) O' (agL H' m') D x m' nx' ∧ m' + cnt O' n ≤ M := by
 obtain ⟨xc, xs⟩ := x
 have HBS := Lib.hid hb
 have HL := Lib.hid hl
 have HVD := Lib.hid hvd
 have HTL := Lib.hid htl
 have HR := Lib.hid hR
 have HES := Lib.hid hes
 have HUC := Lib.hid (And.intro hL hLb)
 have HJ := Lib.hid hj
 have hn63 : n ≤ 9223372036854775807 := by omega
 have HW0 := Lib.hid (h.go ((Fut.refl wr).alloc (.cells #[.int .i64 (u : Int), .int .i64 xc, .int .i64 xs] 78)))
 have HB0 := Lib.hid (show Blk (wr.alloc (.cells #[.int .i64 (u : Int), .int .i64 xc, .int .i64 xs] 78)) wr.heap.size 78 #[.int .i64 (u : Int), .int .i64 xc, .int .i64 xs] from Blk.new wr _ _)
 clear hb hl hvd htl hR hes hL hLb h hj
 go_enter Tryd.func42, Tryd.ntmps42
 go_wp2_with fail
 obtain ⟨cb, hcb⟩ : ∃ q, q = wr.heap.size := ⟨_, rfl⟩
 rw [← hcb] at HB0 ⊢
 have HCB := Lib.hid hcb
 clear hcb
 generalize wr.alloc (.cells #[.int .i64 (u : Int), .int .i64 xc, .int .i64 xs] 78) = wa at *
 obtain ⟨S, hS⟩ : ∃ S : Nat → Bool, S = fun q => q == s.tb || q == s.vb := ⟨_, rfl⟩
 have HST := Lib.hid (show S s.tb = true from by rw [hS]; simp)
 have HSV := Lib.hid (show S s.vb = true from by rw [hS]; simp)
 have hSs : S s.sb = false := by
  rw [hS]
  have := HBS.out.n1
  simp
  omega
 have HWS := Lib.hid HW0.out.s1.sv
 have hSc : S cb = false := by
  cases e : S cb with
  | false => rfl
  | true =>
   exfalso
   rw [hS] at e
   simp only [Bool.or_eq_true, beq_iff_eq] at e
   rcases e with e | e
   ·
    obtain ⟨_, hx, _⟩ := HW0.out.s1.t
    have hy := HB0.out
    unfold Blk at hy
    rw [e, hx] at hy
    simp at hy
   ·
    obtain ⟨_, hx, _⟩ := HW0.out.s1.v
    have hy := HB0.out
    unfold Blk at hy
    rw [e, hx] at hy
    simp at hy
 clear hS
 have s2 := cell_futS (HW0.out.s1.sv.cell (i := 2) rfl) hSs
 have s3 := cell_futS (HW0.out.s1.sv.cell (i := 3) rfl) hSs
 have b0 := cell_futS (HB0.out.cell (i := 0) rfl) hSc
 have b1 := cell_futS (HB0.out.cell (i := 1) rfl) hSc
 have b2 := cell_futS (HB0.out.cell (i := 2) rfl) hSc
 have HSC := Lib.hid hSc
 clear hSs hSc
 refine wp_region_MG (relS S) o_knuth_solver_settle_1 (by kernel_rfl) (by kernel_rfl) (by intro c a d v w h; cases d <;> exact h) ?_; unfold o_knuth_solver_settle_1
 iterate 15 (refine wpS_h rfl rfl (fun K hK => ?_); go_simp; refine hK _ _ ?_; clear hK K)
 refine wpG_o rfl rfl (fun K hK => ?_)
 have t0 := World.rowIs.cell HW0.out.s1.t hu
 have f0 := World.rowIs.frozen HW0.out.s1.t u
 go_simp
 refine (show K _ (wa.setCell ⟨s.tb, u, none⟩ (.bool true)).drew from hK _ _ (.inr (show FutS S wa.drew (wa.setCell ⟨s.tb, u, none⟩ (.bool true)).drew from by have h9 := futS_set (S := S) wa ⟨s.tb, u, none⟩ (.bool true) HST.out; exact ⟨h9.os, h9.tape, h9.output, h9.size, h9.block⟩)) ?_)
 clear hK K s2 s3 b0 b1 b2 t0 f0
 have HW1 := Lib.hid ((HW0.out.setT HBS.out u true).go (Fut.refl _).drew)
 have HB1 := Lib.hid (show Blk (wa.setCell ⟨s.tb, u, none⟩ (.bool true)).drew cb 78 #[.int .i64 (u : Int), .int .i64 xc, .int .i64 xs] from (HB0.out.setOther (a := ⟨s.tb, u, none⟩) (fun e => by have := HSC.out; rw [e] at this; rw [HST.out] at this; cases this) _).drew)
 generalize (wa.setCell ⟨s.tb, u, none⟩ (.bool true)).drew = wb at *
 clear HW0 HB0
 (refine wpS_h rfl rfl (fun K hK => ?_); go_simp; refine hK _ _ ?_; clear hK K)
 refine wpG_o rfl rfl (fun K hK => ?_)
 have v0 := HW1.out.s1.v.c hu
 have v1 := HW1.out.s1.v.s hu
 have f0 := World.rowIs.frozen HW1.out.s1.v (u * 2)
 have f1 := World.rowIs.frozen HW1.out.s1.v (u * 2 + 1)
 go_simp
 refine hK _ _ (.inr ((relS S).trans (futS_set _ _ _ HSV.out) (futS_set _ _ _ HSV.out))) ?_
 clear hK K v0 v1 f0 f1
 have HW2 := Lib.hid (HW1.out.setV HBS.out u ⟨xc, xs⟩)
 have HB2 := Lib.hid (show Blk ((wb.setCell ⟨s.vb, u * 2, none⟩ (.int .i64 xc)).setCell ⟨s.vb, u * 2 + 1, none⟩ (.int .i64 xs)) cb 78 #[.int .i64 (u : Int), .int .i64 xc, .int .i64 xs] from (HB1.out.setOther (a := ⟨s.vb, u * 2, none⟩) (fun e => by have := HSC.out; rw [e] at this; rw [HSV.out] at this; cases this) _).setOther (a := ⟨s.vb, u * 2 + 1, none⟩) (fun e => by have := HSC.out; rw [e] at this; rw [HSV.out] at this; cases this) _)
 generalize (wb.setCell ⟨s.vb, u * 2, none⟩ (.int .i64 xc)).setCell ⟨s.vb, u * 2 + 1, none⟩ (.int .i64 xs) = wd at *
 clear HW1 HB1 HST HSV HSC HWS HCB
 refine wpG_nil ?_
 obtain ⟨UA, uc, hUU, _⟩ := own_form (HW2.out.s1.u.own u hu)
 have HUU := Lib.hid hUU
 have s5 := cell_fut (HW2.out.s1.sv.cell (i := 5) rfl)
 have b0 := cell_fut (HB2.out.cell (i := 0) rfl)
 have u0 := World.rowIs.cell HW2.out.s1.u.row hu
 rw [hUU] at u0
 have u0 := cell_fut u0
 clear hUU
 go_wp2_with fail
 refine wp_region_M o_knuth_solver_settle_2 (by kernel_rfl) (by kernel_rfl) (by intro c a d v w h; cases d <;> exact h) ?_; unfold o_knuth_solver_settle_2
 iterate 10 (refine wpF_h rfl rfl (fun K hK => ?_); go_simp; refine hK _ _ ?_; clear hK K)
 refine wpF_nil ?_
 have HW3 := Lib.hid (HW2.out.go (Fut.refl wd).drew)
 generalize wd.drew = we at *
 clear HW2 HB2 s5 b0 u0
 obtain ⟨ln, hln⟩ : ∃ q, q = (L u).length := ⟨_, rfl⟩
 have HLN := Lib.hid hln
 rw [← hln]
 clear hln
 have hln63 : ln ≤ 9223372036854775807 := by have h9 := own_le (HW3.out.s1.u.own u hu); rw [← HLN.out] at h9; exact h9
 go_wp2_with fail
 go_loopw [31] (fun i wr => ∃ p : Nat, p ≤ ln ∧ i = .int .i64 p ∧ Hid (∃ O' v' H' m' nx', SW X s N n A c w0 wr (upd V u ⟨xc, xs⟩) (upd T u true) O' U L v' H' m' nx' ∧ SJ (EEs es) u (L u) p M (upd T u true) (upd V u ⟨xc, xs⟩) O' (agL H' m') D ⟨xc, xs⟩ m' nx')) (fun i _ => ln - (intOf i).toNat)
 case atStart => exact ⟨0, Nat.zero_le _, rfl, Lib.hid ⟨O, v, H, m, nx, HW3.out, HJ.out⟩⟩
 case round =>
  obtain ⟨p, hp, rfl, HI⟩ := hrel
  obtain ⟨O', v', H', m', nx', hw, hsj⟩ := HI.out
  have HW := Lib.hid hw
  have HS := Lib.hid hsj
  clear HI HW3 HJ hw hsj
  by_cases hlt : p < ln
  ·
   obtain ⟨k, hk⟩ := get_lt HLN.out.symm hlt
   obtain ⟨e, he, hOk, hue⟩ := HS.out.at HUC.out.1 hk (fun i hi => by rw [List.length_map, HL.out]; exact HUC.out.2 u i hi)
   have hkn : k < n := HUC.out.2 u k (List.mem_of_getElem? hk)
   have hown := HW.out.s1.u.own u hu
   rw [HUU.out, ← HLN.out] at hown
   have hown2 : wr.ownsRow s.B 3 1 (.slice UA ln uc) (L u).length ((L u).map nv) := hown
   rw [← HLN.out] at hown2
   obtain ⟨gb, go, rfl, hck⟩ := Rd1.of_own (f := nv) (l := L u) hown2 p k hk
   clear hown2
   have s4 := HW.out.s1.sv.cell (i := 4) rfl
   have o0 := World.rowIs.cell HW.out.s1.o hkn
   have f0 := World.rowIs.frozen HW.out.s1.o k
   have HK := Lib.hid hk
   have HE := Lib.hid he
   have HOK := Lib.hid hOk
   have HUE := Lib.hid hue
   obtain ⟨o1, ho1⟩ : ∃ q, q = O' k := ⟨_, rfl⟩
   rw [← ho1] at o0
   have HO1 := Lib.hid ho1
   obtain ⟨o3, ho3⟩ : ∃ q, o1 = q + 1 := ⟨o1 - 1, by omega⟩
   subst ho3
   have hsub : ((o3 + 1 : Nat) : Int) - 1 = (o3 : Int) := by omega
   have hob : o3 ≤ 3000000 := by
    have h8 := HS.out.om k e he
    have h7 : mis (upd T u true) e.t ≤ e.t.length := List.countP_le_length
    have h6 : ((L u).drop p).count k ≤ (L u).count k := (List.drop_sublist p (L u)).count_le k
    have h5 := HUC.out.1 u k e he
    have h4 : e.t.count u ≤ e.t.length := List.count_le_length
    have h3 : e.t.length ≤ 1000000 := by
     obtain ⟨x9, hx9⟩ := get_lt HL.out hkn
     rw [List.getElem?_map, hx9] at he
     obtain rfl := Option.some.inj he
     simpa [toEE] using HTL.out x9 (List.mem_of_getElem? hx9)
    omega
   clear hk he hOk hue hown ho1
   have HB3 := Lib.hid (show O' k - 1 = o3 from by have := HO1.out; omega)
   have HW4 := Lib.hid (HW.out.setO HBS.out k o3)
   have o4 := World.rowIs.cell HW4.out.s1.o hkn
   rw [upd_same] at o4
   have s8 := HW4.out.s1.sv.cell (i := 4) rfl
   by_cases h30 : o3 = 0
   ·
    have H30 := Lib.hid h30
    have hz : ((o3 : Int) = 0) = True := eq_true (by omega)
    have hz2 : ((o3 : Int) == 0) = true := by simp; omega
    clear h30
    go_wp2_with fail
    generalize wr.setCell ⟨s.ob, k, none⟩ (.int .i64 (o3 : Int)) = w4 at *
    refine (offer_any HW4.out.s1 HW4.out.q HW4.out.h (by have := HS.out.nx; rw [List.length_map, HL.out] at this; omega) hN HS.out.ki.ok HL.out hn HVD.out HTL.out (HR.out.fut HW4.out.f) k e HE.out).mono ?_
    rintro r w5 ⟨rfl, ⟨v5, H5, m5, nx5, q1, q2, q3⟩, q4⟩
    have HW5 := Lib.hid (HW4.out.queue HBS.out q4 q1 q2)
    have HS5 := Lib.hid (HS.out.offer HES.out HK.out HOK.out (by rw [HB3.out]; exact H30.out) HE.out HUE.out q3)
    clear q1 q2 q3 q4
    go_wp2_with fail
    exact ⟨⟨p + 1, by omega, by go_num, Lib.hid ⟨_, v5, H5, m5, nx5, by rw [HB3.out]; exact HW5.out, HS5.out⟩⟩, by simp [intOf]; omega⟩
   ·
    have hz : ((o3 : Int) = 0) = False := eq_false (by omega)
    have hz2 : ((o3 : Int) == 0) = false := by simp; omega
    go_wp2_with fail
    refine ⟨⟨p + 1, by omega, by go_num, Lib.hid ⟨_, v', H', m', nx', ?_, HS.out.skip HK.out (by rw [List.length_map, HL.out]; exact hkn) HOK.out (by rw [HB3.out]; exact h30)⟩⟩, by simp [intOf]; omega⟩
    rw [HB3.out]
    exact HW4.out
  ·
   go_wp2_with fail
   go_returns
   have hmi := HS.out.done (by rw [← HLN.out]; omega)
   refine ⟨rfl, O', v', H', m', nx', HW.out, hmi, ?_⟩
   have := HS.out.ms
   rw [List.length_map, HL.out] at this
   exact this
end Go.Proofs.YtajbmdjlfniofaaDoor
/-
  The solver with the row of chosen hyperedges and the hypergraph's own block.
-/
namespace Go.Proofs.YtajbmdjlfniofaaDoor
open Go.RowKit Go.Deep PK
attribute [local go_sem] Oper.lit Oper.litS fut_fut fut_drew World.cell?_alloc_some
/-- xb: the row of chosen hyperedges; hb: the hypergraph -/
structure XBok (s : SB) (lo xb hb : Nat) : Prop where
 sb : SBok s lo
 x : s.oth xb
 h : s.oth hb
 ne : xb ≠ hb
 lo : lo ≤ xb ∧ lo ≤ hb
structure TW (s : SB) (xb hb : Nat) (N n : Nat) (A : Option Addr) (c : Nat) (w0 wr : World) (V : Nat → VV) (T : Nat → Bool) (O : Nat → Nat) (U : Nat → Value) (L : Nat → List Nat) (v : Value) (H : Nat → EN) (m nx : Nat) (E : Nat → Int) : Prop where
 sw : SW (fun b => wr.heap[b]?) s N n A c w0 wr V T O U L v H m nx
 e : RowI wr xb N E
 h : Blk wr hb 24 #[.int .i64 (N : Int), .slice A n c]
section
variable {X : Nat → Option Obj} {s : SB} {xb hb N n : Nat} {A : Option Addr} {c : Nat} {w0 wr w2 : World} {V V' : Nat → VV} {T T' : Nat → Bool} {O O' : Nat → Nat} {U U' : Nat → Value} {L L' : Nat → List Nat} {v v' : Value} {H H' : Nat → EN} {m nx m' nx' : Nat} {E : Nat → Int}
theorem SW.re (h : SW X s N n A c w0 wr V T O U L v H m nx) : SW (fun b => wr.heap[b]?) s N n A c w0 wr V T O U L v H m nx := ⟨h.s1, h.q, h.h, h.f, fun _ _ => rfl⟩
/-- the solver has gone on, the other blocks are as they were -/
theorem TW.on (h : TW s xb hb N n A c w0 wr V T O U L v H m nx E) (hx : XBok s w0.heap.size xb hb) (k : SW (fun b => wr.heap[b]?) s N n A c w0 w2 V' T' O' U' L' v' H' m' nx') : TW s xb hb N n A c w0 w2 V' T' O' U' L' v' H' m' nx' E :=
 ⟨k.re, h.e.of_block (k.kp xb hx.x), by
  have := k.kp hb hx.h
  unfold Blk at *
  exact this.trans h.h⟩
theorem TW.go (h : TW s xb hb N n A c w0 wr V T O U L v H m nx E) (hx : XBok s w0.heap.size xb hb) (hf : Fut wr w2) : TW s xb hb N n A c w0 w2 V T O U L v H m nx E := h.on hx (h.sw.go hf)
/-- a hyperedge is noted -/
theorem TW.setE (h : TW s xb hb N n A c w0 wr V T O U L v H m nx E) (hx : XBok s w0.heap.size xb hb) (i : Nat) (x : Int) : TW s xb hb N n A c w0 (wr.setCell ⟨xb, i, none⟩ (.int .i64 x)) V T O U L v H m nx (upd E i x) := by
 obtain ⟨k1, k2, k3, k4, k5, k6, k7, k8⟩ := hx.x
 refine ⟨⟨⟨h.sw.s1.sv.setOther (a := ⟨xb, i, none⟩) (Ne.symm k2) _, World.rowIs.setOther h.sw.s1.v (a := ⟨xb, i, none⟩) (Ne.symm k3) _, World.rowIs.setOther h.sw.s1.t (a := ⟨xb, i, none⟩) (Ne.symm k4) _, World.rowIs.setOther h.sw.s1.o (a := ⟨xb, i, none⟩) (Ne.symm k5) _, h.sw.s1.u.setO (a := ⟨xb, i, none⟩) k1 k6 _⟩, h.sw.q.setO hx.sb (a := ⟨xb, i, none⟩) k1 k7 k8 _, h.sw.h, h.sw.f.setCell (p := ⟨xb, i, none⟩) hx.lo.1 _, fun _ _ => rfl⟩, RowI.set h.e i x, h.h.setOther (a := ⟨xb, i, none⟩) (Ne.symm hx.ne) _⟩
/-- a use has been noted -/
theorem TW.push (h : TW s xb hb N n A c w0 wr V T O U L v H m nx E) (hx : XBok s w0.heap.size xb hb) {t x g cp : Nat} (ht : t < N) (ho : w2.ownsRow s.B 3 1 (.slice (some ⟨g, 0, none⟩) ((L t).length + 1) cp) ((L t).length + 1) ((L t).map nv ++ [nv x])) (hg : wr.grownBy w2 (U t).ownBlock) (hw : (U t).ownBlock = some g ∨ g = wr.heap.size) :
  TW s xb hb N n A c w0 (w2.setCell ⟨s.ub, t, none⟩ (.slice (some ⟨g, 0, none⟩) ((L t).length + 1) cp)) V T O (upd U t (.slice (some ⟨g, 0, none⟩) ((L t).length + 1) cp)) (upd L t (L t ++ [x])) v H m nx E := by
 have hsb := hx.sb
 obtain ⟨hlo, hhi, n1, n2, n3, n4, n5⟩ := hx.sb
 have hlt := World.ownsRow.lt (h.sw.s1.u.own t ht)
 have hne : ∀ k, k < s.B → some k ≠ (U t).ownBlock := fun k hk e => by have := (hlt k e.symm).1; omega
 have hbl : ∀ k, k < s.B → w2.heap[k]? = wr.heap[k]? := fun k hk => hg.block k (Nat.lt_of_lt_of_le hk h.sw.q.sz) (hne k hk)
 have hother : ∀ i, i < N → i ≠ t → ∀ k, (U i).ownBlock = some k → k ≠ g := by
  intro i hi hne9 k hk
  rcases hw with hw | hw
  ·
   intro e; subst e; exact hne9 (h.sw.s1.u.sep i t k hi ht hk hw)
  ·
   have := (World.ownsRow.lt (h.sw.s1.u.own i hi) k hk).2
   omega
 have hrow : w2.rowIs s.ub 46 N U := h.sw.s1.u.row.of_block (hbl _ hhi.2.2.2.2.1)
 have hgt : s.B ≤ g := (World.ownsRow.lt ho g rfl).1
 have huse : Uses (w2.setCell ⟨s.ub, t, none⟩ (.slice (some ⟨g, 0, none⟩) ((L t).length + 1) cp)) s.B s.ub N (upd U t (.slice (some ⟨g, 0, none⟩) ((L t).length + 1) cp)) (upd L t (L t ++ [x])) := by
  have hset : ∀ (u : Value) (xs : List Nat), Own w2 s.B u xs → Own (w2.setCell ⟨s.ub, t, none⟩ (.slice (some ⟨g, 0, none⟩) ((L t).length + 1) cp)) s.B u xs := fun u xs h9 =>
   own_futS (S := fun k => k == s.ub) h9 (futS_set _ _ _ (by simp)) (fun k hk => by have := (World.ownsRow.lt h9 k hk).1; simp; omega)
  refine ⟨?_, h.sw.s1.u.lt, fun i hi => ?_, fun i j k hi hj h1 h2 => ?_⟩
  ·
   refine (hrow.set t _).congr (fun i hi => ?_)
   simp only [upd]
  ·
   by_cases e : i = t
   ·
    subst e
    rw [upd_same, upd_same]
    refine hset _ _ ?_
    show w2.ownsRow s.B 3 1 _ (L i ++ [x]).length ((L i ++ [x]).map nv)
    rw [List.length_append, List.map_append]
    exact ho
   ·
    rw [upd_other _ _ _ _ e, upd_other _ _ _ _ e]
    refine hset _ _ (World.ownsRow.kept (h.sw.s1.u.own i hi) hg ?_)
    cases hv : (U i).ownBlock with
    | none => exact .inl rfl
    | some k =>
     right
     intro e2
     exact e (h.sw.s1.u.sep i t k hi ht hv e2.symm)
  ·
   by_cases ei : i = t <;> by_cases ej : j = t
   ·
    rw [ei, ej]
   ·
    subst ei
    rw [upd_same] at h1
    rw [upd_other _ _ _ _ ej] at h2
    simp only [Value.ownBlock, Option.some.injEq] at h1
    exact absurd h1.symm (hother j hj ej k h2)
   ·
    subst ej
    rw [upd_same] at h2
    rw [upd_other _ _ _ _ ei] at h1
    simp only [Value.ownBlock, Option.some.injEq] at h2
    exact absurd h2.symm (hother i hi ei k h1)
   ·
    rw [upd_other _ _ _ _ ei] at h1
    rw [upd_other _ _ _ _ ej] at h2
    exact h.sw.s1.u.sep i j k hi hj h1 h2
 have hq2 : QS w2 s.qb s.mb s.B v H m nx := by
  have hq := h.sw.q
  refine ⟨hq.q.grown hg (hne _ hhi.2.2.2.2.2.1), hq.mp.of_block (hbl _ hhi.2.2.2.2.2.2), World.ownsRow.kept hq.own hg ?_, hq.qB, hq.mB, Nat.le_trans hq.sz hg.size, hq.hd, hq.nx1, hq.mx⟩
  cases hv : v.ownBlock with
  | none => exact .inl rfl
  | some k =>
   right
   intro e2
   obtain ⟨_, hy | ⟨g1, _, _, hv1, _, hh1, _⟩⟩ := h.sw.s1.u.own t ht
   ·
    rw [hy.1] at e2; simp [Value.ownBlock] at e2
   ·
    obtain ⟨_, hz | ⟨g2, _, _, hv2, _, hh2, _⟩⟩ := hq.own
    ·
     rw [hz.1] at hv; simp [Value.ownBlock] at hv
    ·
     rw [hv1] at e2
     rw [hv2] at hv
     simp only [Value.ownBlock, Option.some.injEq] at hv e2
     subst hv
     subst e2
     rw [hh1] at hh2
     simp at hh2
 have hf2 : Fut w0 w2 := Below.grown h.sw.f hg (Nat.le_trans (by omega) h.sw.q.sz) (fun q hq => by have := (hlt q hq).1; omega)
 exact ⟨⟨⟨(h.sw.s1.sv.grown hg (hne _ hhi.1)).setOther (a := ⟨s.ub, t, none⟩) n1.2.2.2.1 _, World.rowIs.setOther (h.sw.s1.v.of_block (hbl _ hhi.2.1)) (a := ⟨s.ub, t, none⟩) n2.2.2.1 _, World.rowIs.setOther (h.sw.s1.t.of_block (hbl _ hhi.2.2.1)) (a := ⟨s.ub, t, none⟩) n3.2.1 _, World.rowIs.setOther (h.sw.s1.o.of_block (hbl _ hhi.2.2.2.1)) (a := ⟨s.ub, t, none⟩) n4.1 _, huse⟩,
  hq2.setO hsb (a := ⟨s.ub, t, none⟩) hhi.2.2.2.2.1 n5.1 n5.2.1 _, h.sw.h, hf2.setCell (p := ⟨s.ub, t, none⟩) hlo.2.2.2.2.1 _, fun _ _ => rfl⟩,
  World.rowIs.setOther (h.e.of_block (hbl _ hx.x.1)) (a := ⟨s.ub, t, none⟩) hx.x.2.2.2.2.2.1 _, (h.h.grown hg (hne _ hx.h.1)).setOther (a := ⟨s.ub, t, none⟩) hx.h.2.2.2.2.2.1 _⟩
theorem TW.as {W : Nat → VV} {F : Nat → Int} (h : TW s xb hb N n A c w0 wr V T O U L v H m nx E) (hV : ∀ i, i < N → V i = W i) (hE : ∀ i, i < N → E i = F i) : TW s xb hb N n A c w0 wr W T O U L v H m nx F :=
 ⟨⟨⟨h.sw.s1.sv, h.sw.s1.v.congr' hV, h.sw.s1.t, h.sw.s1.o, h.sw.s1.u⟩, h.sw.q, h.sw.h, h.sw.f, h.sw.kp⟩, h.e.congr' hE, h.h⟩
end
end Go.Proofs.YtajbmdjlfniofaaDoor
/-
  Solve.
-/
namespace Go.Proofs.YtajbmdjlfniofaaDoor
open Go.RowKit Go.Deep PK
attribute [local go_sem] Oper.lit Oper.litS fut_fut fut_drew World.cell?_alloc_some
attribute [local go_sem] fut_base_drew World.frozen?_setCell
theorem drew_heap (w : World) : w.drew.heap = w.heap := rfl
theorem blk_old (w : World) (o x : Obj) (b : Nat) (h : w.heap[b]? = some x) : (w.alloc o).heap[b]? = some x := (blk_alloc_lt _ _ _ (Array.getElem?_eq_some_iff.1 h).1).trans h
/-- the length of a queue's heap, and how many counts are not nought, read off memory -/
def lenW (wr : World) (b : Nat) : Nat := match wr.cell? ⟨b, 1, none⟩ with
 | some (.slice _ n _) => n
 | _ => 0
theorem lenW_eq {wr : World} {qb mb B : Nat} {v : Value} {H : Nat → EN} {m nx : Nat} (h : QS wr qb mb B v H m nx) : lenW wr qb = m := by
 obtain ⟨VA, vc, hv, _⟩ := own_form h.own
 unfold lenW
 rw [h.q.cell (i := 1) rfl, hv]
 rfl
def posW (wr : World) (b : Nat) : Nat → Nat
 | 0 => 0
 | n + 1 => posW wr b n + (if 0 < intOf ((wr.cell? ⟨b, n, none⟩).getD undef) then 1 else 0)
theorem posW_eq {wr : World} {b N : Nat} {O : Nat → Nat} (h : RowN wr b N O) : ∀ n, n ≤ N → posW wr b n = cnt O n
 | 0, _ => rfl
 | n + 1, hn => by
  rw [posW, cnt, posW_eq h n (by omega), World.rowIs.cell h (by omega)]
  simp [intOf]
theorem KI.allDon {es : List EE} {S : Nat → Bool} {V : Nat → VV} {o : Nat → Nat} {ag : List (Nat × VV)} {L : List Nat} {x : VV} (h : KI es S V o ag L x (fun i => i < es.length)) : KI es S V o ag L x (fun _ => True) :=
 ⟨h.ok, h.un, h.mem, h.ord, h.cand, h.low, fun k e hk _ h0 => h.off k e hk (List.getElem?_eq_some_iff.1 hk).1 h0⟩
theorem madeG (z : Value) (n : Nat) : ∀ i, i < n → (madeCells #[z] n)[i]? = some z := fun i hi => by simp [madeCells, hi, Nat.mod_one]
theorem hc9' (n : Nat) : ∀ k, k < n * 2 → (madeCells #[.int .i64 0, .int .i64 0] (n * 2))[k]? = some (cellV (fun _ => ⟨0, 0⟩) k) := by
 intro k hk
 unfold cellV
 have h2 : k % 2 = 0 ∨ k % 2 = 1 := by omega
 rcases h2 with h2 | h2 <;> simp [madeCells, hk, h2]
theorem new_any (w : World) : Calls Tryd.prog 37 #[fless] w fun r w' => r = .returned (.pointer (some ⟨w.heap.size + 1, 0, none⟩)) ∧ w' = (w.alloc (.map #[] 0)).alloc (.cells #[fless, .slice none 0 0, .map (some w.heap.size), .int .i64 0, .int .i64 0] 101) := by
 have hmm := @run_makeMap Tryd.prog
 go_enter Tryd.func37, Tryd.ntmps37
 go_wp2_with fail
 go_ret
 exact ⟨rfl, rfl⟩
set_option maxHeartbeats 12800000 in
set_option maxRecDepth 4000 in
theorem solve_any (N : Nat) (A : Option Addr) (n c : Nat) (es : List EI) (w : World) (hl : es.length = n) (hn : n ≤ 1000000) (hvd : validB N es = true) (htl : ∀ e ∈ es, e.t.length ≤ 1000000) (hR : RdE w A es) :
  Calls Tryd.prog 29 #[hv N A n c] w fun r w' => (∃ V vb eb, r = .returned (.tuple #[.slice (some ⟨vb, 0, none⟩) N N, .slice (some ⟨eb, 0, none⟩) N N]) ∧ Sol (EEs es) V ∧ RowV w' vb N V ∧ RowI w' eb N (chL V (EEs es) 0) ∧ w.heap.size ≤ vb ∧ w.heap.size ≤ eb) ∧ Below w.heap.size w w' := by
 obtain ⟨v1, v2, v3⟩ := validB_parts hvd
 have hN1 : 1 ≤ N := by omega
 have hN2 : N ≤ 1048576 := by omega
 have HES := Lib.hid (EEs_ok hvd)
 have HVD := Lib.hid v3
 have HTL := Lib.hid htl
 have HL := Lib.hid hl
 have hn63 : n ≤ 9223372036854775807 := by omega
 have hmk1 := run_make_vv N (by omega)
 have hmk2 := run_make_row' (P := Tryd.prog) 71 4 (.bool false) 1 Tryd.underlying71 info_bool rfl .i64 .i64 N (by omega) (by omega)
 have hmk3 := run_make_row' (P := Tryd.prog) 46 3 (.int .i64 0) 8 Tryd.underlying46 info_int rfl .i64 .i64 n (by omega) (by omega)
 have hmk4 := run_make_row' (P := Tryd.prog) 72 46 (.slice none 0 0) 24 Tryd.underlying72 info_sl rfl .i64 .i64 N (by omega) (by omega)
 have hmk5 := run_make_row' (P := Tryd.prog) 46 3 (.int .i64 0) 8 Tryd.underlying46 info_int rfl .i64 .i64 N (by omega) (by omega)
 have HRH := Lib.hid hR
 have HFH := Lib.hid (show Fut w (w.alloc (.cells #[.int .i64 (N : Int), .slice A n c] 24)) from (Fut.refl w).alloc _)
 clear v1 v2 v3 htl hl hvd hR
 go_enter Tryd.func29, Tryd.ntmps29
 go_wp2_with fail
 obtain ⟨hb, hhb⟩ : ∃ q, q = w.heap.size := ⟨_, rfl⟩
 rw [← hhb]
 have HHB := Lib.hid (show Blk (w.alloc (.cells #[.int .i64 (N : Int), .slice A n c] 24)) hb 24 #[.int .i64 (N : Int), .slice A n c] from by rw [hhb]; exact Blk.new w _ _)
 have HHQ := Lib.hid hhb
 clear hhb
 generalize (w.alloc (.cells #[.int .i64 (N : Int), .slice A n c] 24)) = wh at *
 rename_i Q' K hcont
 have a0 := cell_fut (HHB.out.cell (i := 0) rfl)
 have a1 := cell_fut (HHB.out.cell (i := 1) rfl)
 have cont : ∀ (vb tb ob ub sb : Nat) (w1 : World), Hid (Fut wh w1 ∧ w1.heap[vb]? = some (.cells (madeCells #[.int .i64 0, .int .i64 0] (N * 2)) 37 (0, 0)) ∧ w1.heap[tb]? = some (.cells (madeCells #[.bool false] N) 4 (0, 0)) ∧ w1.heap[ob]? = some (.cells (madeCells #[.int .i64 0] n) 3 (0, 0)) ∧ w1.heap[ub]? = some (.cells (madeCells #[.slice none 0 0] N) 46 (0, 0)) ∧ w1.heap[sb]? = some (.cells #[.int .i64 (N : Int), .slice A n c, .slice (some ⟨vb, 0, none⟩) N N, .slice (some ⟨tb, 0, none⟩) N N, .slice (some ⟨ob, 0, none⟩) n n, .slice (some ⟨ub, 0, none⟩) N N, .pointer none] 75 (0, 0)) ∧ (wh.heap.size ≤ vb ∧ wh.heap.size ≤ tb ∧ wh.heap.size ≤ ob ∧ wh.heap.size ≤ ub ∧ wh.heap.size ≤ sb) ∧ (vb < w1.heap.size ∧ tb < w1.heap.size ∧ ob < w1.heap.size ∧ ub < w1.heap.size ∧ sb < w1.heap.size) ∧ (vb ≠ tb ∧ vb ≠ ob ∧ vb ≠ ub ∧ vb ≠ sb ∧ tb ≠ ob ∧ tb ≠ ub ∧ tb ≠ sb ∧ ob ≠ ub ∧ ob ≠ sb ∧ ub ≠ sb)) → K { tmps := #[hv (N : Int) A n c, .pointer (some ⟨hb, 0, none⟩), .slice none 0 0, .slice none 0 0, .pointer (some ⟨sb, 0, none⟩), undef, undef, undef, undef, undef, undef, undef, undef, undef, undef, undef, undef, .agg #[.int .i64 (N : Int), .slice A n c], .pointer (some ⟨hb, 0, none⟩), .int .i64 (N : Int), .slice (some ⟨vb, 0, none⟩) N N, .pointer (some ⟨hb, 0, none⟩), .int .i64 (N : Int), .slice (some ⟨tb, 0, none⟩) N N, .pointer (some ⟨hb, 1, none⟩), .slice A n c, .int .i64 (n : Int), .slice (some ⟨ob, 0, none⟩) n n, .pointer (some ⟨hb, 0, none⟩), .int .i64 (N : Int), .slice (some ⟨ub, 0, none⟩) N N, .agg #[.int .i64 (N : Int), .slice A n c, .slice (some ⟨vb, 0, none⟩) N N, .slice (some ⟨tb, 0, none⟩) N N, .slice (some ⟨ob, 0, none⟩) n n, .slice (some ⟨ub, 0, none⟩) N N, .pointer none], .pointer (some ⟨sb, 0, none⟩), undef, undef, undef, undef, undef, undef, undef, undef, undef, undef, undef, undef, undef, undef, undef, undef, undef, undef, undef, undef, undef, undef, undef, undef, undef, undef, undef, undef, undef, undef, undef, undef, undef, undef, undef, undef, undef, undef, undef, undef, undef, undef, undef, undef, undef, undef, undef, undef, undef, undef, undef, undef, undef, undef, undef, undef, undef, undef, undef, undef, undef, undef, undef, undef, undef, undef, undef, undef, undef, undef, undef, undef, undef, undef, undef, undef, undef, undef, undef, undef, undef, undef, undef, undef, undef, undef, undef, undef, undef, undef, undef, undef, undef, undef, undef, undef, undef, undef, undef, undef, undef, undef, undef, undef, undef, undef, undef, undef, undef, undef, undef, undef, undef, undef, undef, undef, undef, undef, undef, undef, undef, undef, undef, undef, undef, undef, undef, undef, undef, undef, undef, undef, undef, undef, undef, undef, undef, undef, undef, undef, undef, undef, undef, undef, undef, undef, undef, undef, undef, undef, undef, undef, undef, undef, undef, undef, undef, undef, undef, undef, undef, undef, undef, undef, undef], defers := [] } w1 := by
  as_aux_lemma =>
   intro vb tb ob ub sb w1 HF
   refine hcont _ _ ?_
   clear hcont
   go_wp2_with fail
   obtain ⟨mb, hmb⟩ : ∃ q, q = w1.heap.size := ⟨_, rfl⟩
   obtain ⟨qb, hqb⟩ : ∃ q, q = w1.heap.size + 1 := ⟨_, rfl⟩
   refine (new_any w1).mono ?_
   rintro r w2 ⟨hr, hw2⟩
   rw [← hqb] at hr
   rw [← hmb] at hw2
   subst hr
   obtain ⟨f0, gv, gt, go, gu, gs, glo, ghi, gne⟩ := HF.out
   have HFW := Lib.hid (show Fut w1 w2 from by rw [hw2]; exact ((Fut.refl w1).alloc _).alloc _)
   have HQ0 := Lib.hid (show Blk w2 qb 101 #[fless, .slice none 0 0, .map (some mb), .int .i64 0, .int .i64 0] from by rw [hw2]; exact heap_new' _ _ _ (by rw [World.size_alloc, hqb]))
   have HM0 := Lib.hid (show MPi w2 mb from by rw [hw2, hmb]; exact (MP.made w1 _ _).fut ((Fut.refl _).alloc _))
   have HSZ := Lib.hid (show w2.heap.size = qb + 1 ∧ qb = mb + 1 ∧ mb = w1.heap.size from ⟨by rw [hw2, World.size_alloc, World.size_alloc]; omega, by omega, hmb⟩)
   have HV0 := Lib.hid (show RowV w2 vb N (fun _ => ⟨0, 0⟩) from RowV.fut (World.rowIs.congr (show w1.rowIs vb 37 (N * 2) (cellV (fun _ => ⟨0, 0⟩)) from by
    exact ⟨_, gv, size_madeCells _ _, hc9' N⟩) (fun _ _ => rfl)) HFW.out)
   have HT0 := Lib.hid (show RowB w2 tb N (fun _ => false) from (show w1.rowIs tb 4 N (fun _ => .bool false) from ⟨_, gt, size_madeCells _ _, madeG _ _⟩).of_block (HFW.out.block _ ghi.2.1))
   have HO0 := Lib.hid (show RowN w2 ob n (fun _ => 0) from (show w1.rowIs ob 3 n (fun _ => .int .i64 0) from ⟨_, go, size_madeCells _ _, madeG _ _⟩).of_block (HFW.out.block _ ghi.2.2.1))
   have HU0 := Lib.hid (show w2.rowIs ub 46 N (fun _ => .slice none 0 0) from (show w1.rowIs ub 46 N (fun _ => .slice none 0 0) from ⟨_, gu, size_madeCells _ _, madeG _ _⟩).of_block (HFW.out.block _ ghi.2.2.2.1))
   have HS0 := Lib.hid (show Blk w2 sb 75 #[.int .i64 (N : Int), .slice A n c, .slice (some ⟨vb, 0, none⟩) N N, .slice (some ⟨tb, 0, none⟩) N N, .slice (some ⟨ob, 0, none⟩) n n, .slice (some ⟨ub, 0, none⟩) N N, .pointer none] from Blk.fut gs HFW.out)
   have HH0 := Lib.hid (show Blk w2 hb 24 #[.int .i64 (N : Int), .slice A n c] from (HHB.out.fut f0).fut HFW.out)
   have HF2 := Lib.hid (show Fut w w2 from (HFH.out.trans f0).trans HFW.out)
   have HNE := Lib.hid (And.intro glo (And.intro ghi gne))
   have HWH := Lib.hid (show hb < wh.heap.size from HHB.out.lt)
   have HWL := Lib.hid (show w.heap.size ≤ wh.heap.size from HFH.out.size)
   clear f0 gv gt go gu gs glo ghi gne hw2 hmb hqb HF HFW hmk1 hmk2 hmk3 hmk4
   have p6 := HS0.out.cell (i := 6) rfl
   have f6 := HS0.out.fz 6
   have HS1 := Lib.hid (HS0.out.set 6 (.pointer (some ⟨qb, 0, none⟩)))
   have s2 := HS1.out.cell (i := 2) rfl
   have hhs : hb ≠ sb := by have := HNE.out.1; have := HWH.out; omega
   have h0 := (HH0.out.setOther (a := ⟨sb, 6, none⟩) hhs (.pointer (some ⟨qb, 0, none⟩))).cell (i := 0) rfl
   go_wp2_with fail
   obtain ⟨xb, hxb⟩ : ∃ q, q = w2.heap.size := ⟨_, rfl⟩
   rw [show w2.heap.size = xb from hxb.symm]
   obtain ⟨s, hsd⟩ : ∃ s : SB, s = ⟨sb, vb, tb, ob, ub, qb, mb, qb + 2⟩ := ⟨_, rfl⟩
   obtain ⟨w3, hw3⟩ : ∃ q, q = (w2.setCell ⟨sb, 6, none⟩ (.pointer (some ⟨qb, 0, none⟩))).alloc (.cells (madeCells #[.int .i64 0] N) 3) := ⟨_, rfl⟩
   rw [← hw3]
   have HXB := Lib.hid (show XBok s w.heap.size xb hb from by
    obtain ⟨g1, g2, g3⟩ := HNE.out
    obtain ⟨g4, g5, g6⟩ := HSZ.out
    have g7 := HWH.out
    have g8 := HWL.out
    have g9 := HHQ.out
    subst hsd
    refine ⟨⟨?_, ?_, ?_, ?_, ?_, ?_, ?_⟩, ?_, ?_, ?_, ?_⟩
    all_goals try simp only [SB.oth]
    all_goals omega)
   have HTW := Lib.hid (show TW s xb hb N n A c w w3 (fun _ => ⟨0, 0⟩) (fun _ => false) (fun _ => 0) (fun _ => .slice none 0 0) (fun _ => []) (.slice none 0 0) (fun _ => ⟨0, top, 0, 0⟩) 0 0 (fun _ => 0) from by
    obtain ⟨g1, g2, g3⟩ := HNE.out
    obtain ⟨g4, g5, g6⟩ := HSZ.out
    have g7 := HWH.out
    have g8 := HWL.out
    subst hsd hw3
    refine ⟨⟨⟨HS1.out.alloc _, World.rowIs.alloc (World.rowIs.setOther HV0.out (a := ⟨sb, 6, none⟩) (by simp only; omega) _) _, World.rowIs.alloc (World.rowIs.setOther HT0.out (a := ⟨sb, 6, none⟩) (by simp only; omega) _) _, World.rowIs.alloc (World.rowIs.setOther HO0.out (a := ⟨sb, 6, none⟩) (by simp only; omega) _) _, ?_⟩, ?_, ?_, ?_, fun _ _ => rfl⟩, ?_, ?_⟩
    ·
     refine ⟨World.rowIs.alloc (World.rowIs.setOther HU0.out (a := ⟨sb, 6, none⟩) (by simp only; omega) _) _, by simp only; omega, fun i hi => World.ownsRow_nil _ _ _ _, fun i j g hi hj h1 h2 => by simp [Value.ownBlock] at h1⟩
    ·
     refine ⟨(HQ0.out.setOther (a := ⟨sb, 6, none⟩) (by simp only; omega) _).alloc _, (HM0.out.setCell (a := ⟨sb, 6, none⟩) (by simp only; omega) _).fut ((Fut.refl _).alloc _), World.ownsRow_nil _ _ _ _, by simp only; omega, by simp only; omega, ?_, fun i hi => by omega, by omega, by omega⟩
     simp only [World.size_alloc, World.size_setCell]
     omega
    ·
     intro j h1 h2
     omega
    ·
     exact (HF2.out.setCell (p := ⟨sb, 6, none⟩) (by simp only; omega) _).alloc _
    ·
     have h9 := World.rowIs_made (w2.setCell ⟨sb, 6, none⟩ (.pointer (some ⟨qb, 0, none⟩))) (.int .i64 0) N 3
     rw [World.size_setCell, ← hxb] at h9
     exact h9
    ·
     exact (HH0.out.setOther (a := ⟨sb, 6, none⟩) hhs _).alloc _)
   have HSD := Lib.hid hsd
   have eqs : s.sb = sb ∧ s.vb = vb ∧ s.tb = tb ∧ s.ob = ob ∧ s.ub = ub ∧ s.qb = qb ∧ s.mb = mb := by rw [hsd]; exact ⟨rfl, rfl, rfl, rfl, rfl, rfl, rfl⟩
   obtain ⟨e1, e2, e3, e4, e5, e6, e7⟩ := eqs
   subst e1 e2 e3 e4 e5 e6 e7
   clear p6 f6 s2 h0 hhs hw3 hsd hxb HS0 HS1 HV0 HT0 HO0 HU0 HQ0 HM0 HH0 HF2 HNE HWH HWL HSZ HHQ HHB
   clear hmk5
   have HRW := HRH
   go_loopw [45] (fun i wr => ∃ j : Nat, j ≤ N ∧ i = .int .i64 j ∧ Hid (TW s xb hb N n A c w wr (fun k => if k < j then top else ⟨0, 0⟩) (fun _ => false) (fun _ => 0) (fun _ => .slice none 0 0) (fun _ => []) (.slice none 0 0) (fun _ => ⟨0, top, 0, 0⟩) 0 0 (fun k => if k < j then -1 else 0))) (fun i _ => N - (intOf i).toNat)
   case atStart => exact ⟨0, Nat.zero_le _, rfl, Lib.hid (HTW.out.as (fun i _ => by simp) (fun i _ => by simp))⟩
   case round =>
    obtain ⟨j, hj, rfl, HI⟩ := hrel
    clear HTW
    by_cases hlt : j < N
    ·
     have s2 := HI.out.sw.s1.sv.cell (i := 2) rfl
     have g2 := HI.out.sw.s1.v.c hlt
     have g3 := HI.out.sw.s1.v.s hlt
     have g4 := World.rowIs.frozen HI.out.sw.s1.v (j * 2)
     have g5 := World.rowIs.frozen HI.out.sw.s1.v (j * 2 + 1)
     have g6 := World.rowIs.cell HI.out.e hlt
     have g7 := World.rowIs.frozen HI.out.e j
     have g8 : ∀ u v, ((wr.setCell ⟨s.vb, j * 2, none⟩ u).setCell ⟨s.vb, j * 2 + 1, none⟩ v).cell? ⟨xb, j, none⟩ = some (.int .i64 (if j < j then -1 else 0)) := fun u v => (World.cell?_setCell_far _ ⟨s.vb, j * 2 + 1, none⟩ _ _ (Ne.symm HXB.out.x.2.2.1)).trans ((World.cell?_setCell_far _ ⟨s.vb, j * 2, none⟩ _ _ (Ne.symm HXB.out.x.2.2.1)).trans g6)
     clear g6
     go_wp2_with fail
     refine ⟨⟨j + 1, by omega, by go_num, Lib.hid ?_⟩, by simp [intOf]; omega⟩
     refine ((HI.out.on HXB.out (HI.out.sw.setV HXB.out.sb j top)).setE HXB.out j (-1)).as (fun i _ => ?_) (fun i _ => ?_)
     ·
      by_cases e : i = j
      ·
       subst e; rw [upd_same, if_pos (by omega)]
      ·
       rw [upd_other _ _ _ _ e]
       by_cases e2 : i < j
       ·
        rw [if_pos e2, if_pos (by omega)]
       ·
        rw [if_neg e2, if_neg (by omega)]
     ·
      by_cases e : i = j
      ·
       subst e; rw [upd_same, if_pos (by omega)]
      ·
       rw [upd_other _ _ _ _ e]
       by_cases e2 : i < j
       ·
        rw [if_pos e2, if_pos (by omega)]
       ·
        rw [if_neg e2, if_neg (by omega)]
    ·
     have HI1 := Lib.hid (show TW s xb hb N n A c w wr (fun _ => top) (fun _ => false) (fun _ => 0) (fun _ => .slice none 0 0) (fun _ => []) (.slice none 0 0) (fun _ => ⟨0, top, 0, 0⟩) 0 0 (fun _ => -1) from HI.out.as (fun i hi => by rw [if_pos (by omega)]) (fun i hi => by rw [if_pos (by omega)]))
     have k1 := HI1.out.h.cell (i := 1) rfl
     clear HI
     go_wp2_with fail
     clear k1
     obtain ⟨wo, rfl⟩ : ∃ x, x = wr := ⟨_, rfl⟩
     go_loopw [62] (fun i wr => ∃ k : Nat, k ≤ n ∧ i = .int .i64 k ∧ Hid (∃ O U L, TW s xb hb N n A c w wr (fun _ => top) (fun _ => false) O U L (.slice none 0 0) (fun _ => ⟨0, top, 0, 0⟩) 0 0 (fun _ => -1) ∧ UsP (EEs es) k 0 L ∧ (∀ i e, i < k → (EEs es)[i]? = some e → O i = e.t.length) ∧ ∀ v, (L v).length ≤ k * 1000000)) (fun i _ => n - (intOf i).toNat)
     case atStart => exact ⟨0, Nat.zero_le _, rfl, Lib.hid ⟨_, _, _, HI1.out, UsP.start _, fun i e h => by omega, fun v => by simp⟩⟩
     case round =>
      obtain ⟨k, hk, rfl, HI⟩ := hrel
      clear HI1
      obtain ⟨O, U, L, hi1, hi2, hi3, hi4⟩ := HI.out
      have HTW := Lib.hid hi1
      have HUS := Lib.hid hi2
      have HOL := Lib.hid hi3
      have HLL := Lib.hid hi4
      clear hi1 hi2 hi3 hi4 HI
      by_cases hlt : k < n
      ·
       obtain ⟨x, hx⟩ := get_lt HL.out (show k < n by omega)
       have hxm := List.mem_of_getElem? hx
       obtain ⟨x1, x2, x3, x4, x5⟩ := okE_parts (HVD.out x hxm)
       have hRw := HRW.out.fut (HTW.out.sw.f)
       obtain ⟨b2, o2, rfl, hc⟩ := hRw.1 k x hx
       obtain ⟨ht, _⟩ := hRw.2 x hxm
       have hxl := HTL.out x hxm
       obtain ⟨xh, xt, xc, xl0, xl1, xA, xk⟩ := x
       simp only at x1 x2 x3 x4 x5 hxl ht
       obtain ⟨h9, rfl⟩ : ∃ h : Nat, xh = h := ⟨xh.toNat, by omega⟩
       have hh9 : h9 < N := by omega
       have c0 := hc 0 _ (by decide) rfl
       have c1 := hc 1 _ (by decide) rfl
       have c2 := hc 2 _ (by decide) rfl
       have c3 := hc 3 _ (by decide) rfl
       have c4 := hc 4 _ (by decide) rfl
       simp only [Nat.add_zero] at c0
       have htl63 : xt.length ≤ 9223372036854775807 := by omega
       have HT := Lib.hid ht
       have HRX := Lib.hid (show Rd1 w xA (.int .i64 ·) xt from (HRW.out.2 _ hxm).1)
       have HXC := Lib.hid (show 0 ≤ xc ∧ xc ≤ INF from ⟨x3, x4⟩)
       have HX5 := Lib.hid x5
       have HEX := Lib.hid (show (EEs es)[k]? = some (toEE ⟨(h9 : Int), xt, xc, xl0, xl1, xA, xk⟩) from by rw [List.getElem?_map, hx]; rfl)
       have HEM := Lib.hid (show toEE ⟨(h9 : Int), xt, xc, xl0, xl1, xA, xk⟩ ∈ EEs es from List.mem_map.2 ⟨_, hxm, rfl⟩)
       clear hx hxm hc ht x5 x1 x2 x3 x4 hRw
       go_wp2_with fail
       obtain ⟨eb, heb⟩ : ∃ q, q = wr.heap.size := ⟨_, rfl⟩
       rw [← heb]
       have HEB := Lib.hid (show Blk (wr.alloc (.cells #[.int .i64 (h9 : Int), .slice xA xt.length xk, .int .i64 xc, .int .i64 xl0, .int .i64 xl1] 49)) eb 49 #[.int .i64 (h9 : Int), .slice xA xt.length xk, .int .i64 xc, .int .i64 xl0, .int .i64 xl1] from by rw [heb]; exact Blk.new wr _ _)
       have HTX := Lib.hid (HTW.out.go HXB.out ((Fut.refl wr).alloc (.cells #[.int .i64 (h9 : Int), .slice xA xt.length xk, .int .i64 xc, .int .i64 xl0, .int .i64 xl1] 49)))
       clear heb c0 c1 c2 c3 c4
       generalize wr.alloc (.cells #[.int .i64 (h9 : Int), .slice xA xt.length xk, .int .i64 xc, .int .i64 xl0, .int .i64 xl1] 49) = wx at *
       have y1 := cell_fut (HEB.out.cell (i := 1) rfl)
       have s4 := cell_fut (HTX.out.sw.s1.sv.cell (i := 4) rfl)
       have o0 := World.rowIs.cell HTX.out.sw.s1.o hlt
       have f0 := World.rowIs.frozen HTX.out.sw.s1.o k
       have hrel1 := HTX
       refine wp_region_M o_knuth_Solve_13 (by kernel_rfl) (by kernel_rfl) (by intro c a d v w h; cases d <;> exact h) ?_; unfold o_knuth_Solve_13
       iterate 9 (refine wpF_h rfl rfl (fun K hK => ?_); go_simp; refine hK _ _ ?_; clear hK K)
       refine wpF_ol rfl (by kernel_rfl) rfl (fun K hK => ?_)
       go_simp
       refine (show K _ (wx.setCell ⟨s.ob, k, none⟩ (nv xt.length)).drew from hK _ _ ?_)
       clear hK K y1 s4 o0 f0 hrel1
       have HTY := Lib.hid ((HTX.out.on HXB.out (HTX.out.sw.setO HXB.out.sb k xt.length)).go HXB.out (Fut.refl _).drew)
       have hob : eb ≠ s.ob := fun e => by
        obtain ⟨_, hx, _⟩ := HTX.out.sw.s1.o
        have hy := HEB.out
        unfold Blk at hy
        rw [e, hx] at hy
        simp at hy
       have HEB2 := Lib.hid (show Blk (wx.setCell ⟨s.ob, k, none⟩ (nv xt.length)).drew eb 49 #[.int .i64 (h9 : Int), .slice xA xt.length xk, .int .i64 xc, .int .i64 xl0, .int .i64 xl1] from (HEB.out.setOther (a := ⟨s.ob, k, none⟩) hob _).drew)
       generalize (wx.setCell ⟨s.ob, k, none⟩ (nv xt.length)).drew = wy at *
       clear HEB HTX HTW hob
       refine wpF_nil ?_
       have y1 := HEB2.out.cell (i := 1) rfl
       go_wp2_with fail
       clear y1 HEB2
       obtain ⟨wo2, rfl⟩ : ∃ x, x = wy := ⟨_, rfl⟩
       obtain ⟨ln, hln⟩ : ∃ q, q = xt.length := ⟨_, rfl⟩
       have HLN := Lib.hid hln
       rw [← hln]
       have hln6 : ln ≤ 1000000 := by omega
       clear hln
       go_loopw [79] (fun i wr => ∃ j : Nat, j ≤ ln ∧ i = .int .i64 j ∧ Hid (∃ U' L', TW s xb hb N n (some ⟨b2, o2, none⟩) c w wr (fun _ => top) (fun _ => false) (upd O k xt.length) U' L' (.slice none 0 0) (fun _ => ⟨0, top, 0, 0⟩) 0 0 (fun _ => -1) ∧ UsP (EEs es) k j L' ∧ ∀ v, (L' v).length ≤ k * 1000000 + j)) (fun i _ => ln - (intOf i).toNat)
       case atStart => exact ⟨0, Nat.zero_le _, rfl, Lib.hid ⟨U, L, HTY.out, HUS.out, fun v => Nat.le_trans (HLL.out v) (Nat.le_add_right _ _)⟩⟩
       case round =>
        obtain ⟨j, hj, rfl, HI⟩ := hrel
        clear HTY HUS HLL
        obtain ⟨U', L', hi1, hi2, hi3⟩ := HI.out
        have HTY := Lib.hid hi1
        have HUS := Lib.hid hi2
        have HLL := Lib.hid hi3
        clear hi1 hi2 hi3 HI
        by_cases hlt2 : j < ln
        ·
         obtain ⟨y, hy⟩ := get_lt HLN.out.symm hlt2
         have hyr := HX5.out y (List.mem_of_getElem? hy)
         obtain ⟨t, rfl⟩ : ∃ t : Nat, y = t := ⟨y.toNat, by omega⟩
         have htN : t < N := by omega
         have HEY := Lib.hid (show (toEE ⟨(h9 : Int), xt, xc, xl0, xl1, xA, xk⟩).t[j]? = some t from by show (xt.map Int.toNat)[j]? = some t; rw [List.getElem?_map, hy]; rfl)
         have hRx := HRX.out.fut HTY.out.sw.f
         obtain ⟨gx, ox, rfl, hcx⟩ := hRx j _ hy
         obtain ⟨UA, uc, hUU, _⟩ := own_form (HTY.out.sw.s1.u.own t htN)
         have HUU := Lib.hid hUU
         have hltu := fun g hg => (World.ownsRow.lt (HTY.out.sw.s1.u.own t htN) g hg)
         obtain ⟨S, hS⟩ : ∃ S : Nat → Bool, S = fun q => (U' t).ownBlock == some q := ⟨_, rfl⟩
         have hSB : ∀ q, q < s.B → S q = false := fun q hq => by
          rw [hS]
          cases e : ((U' t).ownBlock == some q) with
          | false => exact e
          | true => have := (hltu q (by simpa using e)).1; omega
         have HSV := Lib.hid (show ∀ q, (U' t).ownBlock = some q → S q = true from fun q hq => by rw [hS]; simp [hq])
         clear hS hltu
         have s5 := cell_futS (HTY.out.sw.s1.sv.cell (i := 5) rfl) (hSB _ HXB.out.sb.hi.1)
         have u0 := World.rowIs.cell HTY.out.sw.s1.u.row htN
         rw [hUU] at u0
         have u0 := cell_futS u0 (hSB _ HXB.out.sb.hi.2.2.2.2.1)
         have HLT := Lib.hid (show (L' t).length ≤ 1000000000000 from Nat.le_trans (HLL.out t) (by omega))
         clear hSB hUU hyr hRx
         go_wp2_with fail
         clear hcx
         refine wp_region_MG (relS S) o_knuth_Solve_17 (by kernel_rfl) (by kernel_rfl) (by intro c a d v w h; cases d <;> exact h) ?_; unfold o_knuth_Solve_17
         iterate 13 (refine wpS_h rfl rfl (fun K hK => ?_); go_simp; refine hK _ _ ?_; clear hK K)
         refine wpG_o rfl rfl (fun K hK => ?_)
         go_simp
         go_at_K
         refine hK _ _ (.inr ((relS S).of_fut ((Fut.refl _).alloc _))) ?_
         clear hK K s5 u0
         obtain ⟨wc, hwc⟩ : ∃ q, q = (wr.alloc (.cells #[nv k] 3)).drew := ⟨_, rfl⟩
         have HTC := Lib.hid (show TW s xb hb N n (some ⟨b2, o2, none⟩) c w wc (fun _ => top) (fun _ => false) (upd O k xt.length) U' L' (.slice none 0 0) (fun _ => ⟨0, top, 0, 0⟩) 0 0 (fun _ => -1) from by rw [hwc]; exact HTY.out.go HXB.out ((Fut.refl wr).alloc _).drew)
         have HNB := Lib.hid (show wc.heap[wr.heap.size]? = some (.cells #[nv k] 3 (0, 0)) from by rw [hwc]; exact heap_new' _ _ _ rfl)
         rw [show (wr.alloc (.cells #[nv k] 3)).drew = wc from hwc.symm]
         clear hwc
         refine wpG_o rfl rfl (fun K hK => ?_)
         have hown : wc.ownsRow s.B 3 1 (.slice UA (L' t).length uc) (L' t).length ((L' t).map nv) := by rw [← HUU.out]; exact HTC.out.sw.s1.u.own t htN
         refine wp_push 46 3 1 8 _ Tryd.underlying46 info_int rfl (by decide) (by decide) (.tmp 94) (.tmp 96) rfl s.B (.slice UA (L' t).length uc) (L' t).length ((L' t).map nv) rfl hown wr.heap.size [nv k] rfl HNB.out rfl (by simp [Value.oneCell']) HLT.out HTC.out.sw.q.sz ?_
         clear hown
         intro g cap wd h1 h2 h3
         rw [← HUU.out] at h2 h3
         refine hK _ _ (.inr ((FutS.refl _).grown h2 (fun q hq => .inl (HSV.out q hq)))) ?_
         clear hK K
         have HPU := Lib.hid (HTC.out.push HXB.out htN h1 h2 h3)
         have u1 := World.rowIs.cell (HTC.out.sw.s1.u.row.of_block (h2.block s.ub HTC.out.sw.s1.u.row.lt (fun e => by have := (World.ownsRow.lt (HTC.out.sw.s1.u.own t htN) s.ub e.symm).1; have := HXB.out.sb.hi.2.2.2.2.1; omega))) htN
         have f1 := World.rowIs.frozen (HTC.out.sw.s1.u.row.of_block (h2.block s.ub HTC.out.sw.s1.u.row.lt (fun e => by have := (World.ownsRow.lt (HTC.out.sw.s1.u.own t htN) s.ub e.symm).1; have := HXB.out.sb.hi.2.2.2.2.1; omega))) t
         clear h1 h2 h3
         (refine wpS_h rfl rfl (fun K hK => ?_); go_simp; refine hK _ _ ?_; clear hK K)
         refine wpG_ol rfl (by kernel_rfl) rfl (fun K hK => ?_)
         go_simp
         refine hK _ _ ?_
         clear hK K u1 f1
         refine wpG_nil ?_
         go_wp2_with fail
         exact ⟨⟨j + 1, by omega, by go_num, Lib.hid ⟨_, _, HPU.out, HUS.out.push HEX.out HEY.out, fun v => Nat.le_trans (upd_len (t := t) (k := k) HLL.out v) (by omega)⟩⟩, by simp [intOf]; omega⟩
        ·
         go_wp2_with fail
         refine ⟨⟨k + 1, by omega, by go_num, Lib.hid ⟨_, _, _, HTY.out, HUS.out.next HEX.out (by show (xt.map Int.toNat).length ≤ j; rw [List.length_map, ← HLN.out]; omega), fun i e hi he => ?_, fun v => by have := HLL.out v; omega⟩⟩, by simp [intOf]; omega⟩
         by_cases hik : i = k
         ·
          subst hik
          rw [HEX.out] at he
          obtain rfl := Option.some.inj he
          rw [upd_same]
          show xt.length = (xt.map Int.toNat).length
          rw [List.length_map]
         ·
          rw [upd_other _ _ _ _ hik]
          exact HOL.out i e (by omega) he
      ·
       have hkn : k = n := by omega
       have HUC := Lib.hid (show UseC (EEs es) L ∧ ∀ v, ∀ i ∈ L v, i < n from by
        have h9 := HUS.out
        have h8 : (EEs es).length = n := by rw [List.length_map, HL.out]
        rw [hkn, ← h8] at h9
        rw [← h8]
        exact h9.all)
       have HOM := Lib.hid (show ∀ (i : Nat) (e : EE), (EEs es)[i]? = some e → O i = e.t.length from fun i e he => HOL.out i e (by have h9 := (List.getElem?_eq_some_iff.1 he).1; rw [List.length_map, HL.out] at h9; omega) he)
       have s4 := HTW.out.sw.s1.sv.cell (i := 4) rfl
       clear HUS HOL HLL hkn
       go_wp2_with fail
       clear s4
       obtain ⟨wo3, rfl⟩ : ∃ x, x = wr := ⟨_, rfl⟩
       go_loopw [106] (fun i wr => ∃ k : Nat, k ≤ n ∧ i = .int .i64 k ∧ Hid (∃ v H m nx, TW s xb hb N n A c w wr (fun _ => top) (fun _ => false) O U L v H m nx (fun _ => -1) ∧ KI (EEs es) (fun _ => false) (fun _ => top) O (agL H m) [] ⟨0, 0⟩ (fun i => i < k) ∧ nx + cnt O k ≤ k)) (fun i _ => n - (intOf i).toNat)
       case atStart => exact ⟨0, Nat.zero_le _, rfl, Lib.hid ⟨_, _, _, _, HTW.out, by simpa [agL] using KI.first HES.out O, Nat.le_refl _⟩⟩
       case round =>
        obtain ⟨k, hk, rfl, HI⟩ := hrel
        clear HTW
        obtain ⟨v, H, m, nx, hi1, hi2, hi3⟩ := HI.out
        have HTW := Lib.hid hi1
        have HKI := Lib.hid hi2
        have HNX := Lib.hid hi3
        clear hi1 hi2 hi3 HI
        by_cases hlt : k < n
        ·
         obtain ⟨x, hx⟩ := get_lt HL.out (show k < n by omega)
         have hxm := List.mem_of_getElem? hx
         obtain ⟨x1, x2, x3, x4, x5⟩ := okE_parts (HVD.out x hxm)
         have hRw := HRW.out.fut (HTW.out.sw.f)
         obtain ⟨b2, o2, rfl, hc⟩ := hRw.1 k x hx
         obtain ⟨ht, _⟩ := hRw.2 x hxm
         have hxl := HTL.out x hxm
         obtain ⟨xh, xt, xc, xl0, xl1, xA, xk⟩ := x
         simp only at x1 x2 x3 x4 x5 hxl ht
         obtain ⟨h9, rfl⟩ : ∃ h : Nat, xh = h := ⟨xh.toNat, by omega⟩
         have hh9 : h9 < N := by omega
         have c0 := hc 0 _ (by decide) rfl
         have c1 := hc 1 _ (by decide) rfl
         have c2 := hc 2 _ (by decide) rfl
         have c3 := hc 3 _ (by decide) rfl
         have c4 := hc 4 _ (by decide) rfl
         simp only [Nat.add_zero] at c0
         have htl63 : xt.length ≤ 9223372036854775807 := by omega
         have HT := Lib.hid ht
         have HRX := Lib.hid (show Rd1 w xA (.int .i64 ·) xt from (HRW.out.2 _ hxm).1)
         have HXC := Lib.hid (show 0 ≤ xc ∧ xc ≤ INF from ⟨x3, x4⟩)
         have HX5 := Lib.hid x5
         have HEX := Lib.hid (show (EEs es)[k]? = some (toEE ⟨(h9 : Int), xt, xc, xl0, xl1, xA, xk⟩) from by rw [List.getElem?_map, hx]; rfl)
         have HEM := Lib.hid (show toEE ⟨(h9 : Int), xt, xc, xl0, xl1, xA, xk⟩ ∈ EEs es from List.mem_map.2 ⟨_, hxm, rfl⟩)
         clear hx hxm hc ht x5 x1 x2 x3 x4 hRw
         have o0 := World.rowIs.cell HTW.out.sw.s1.o hlt
         rw [HOM.out k _ HEX.out, show (toEE ⟨(h9 : Int), xt, xc, xl0, xl1, xA, xk⟩).t.length = xt.length from by show (xt.map Int.toNat).length = _; rw [List.length_map]] at o0
         have HOK := Lib.hid (show O k = xt.length from by rw [HOM.out k _ HEX.out]; show (xt.map Int.toNat).length = _; rw [List.length_map])
         have k1 := HTW.out.h.cell (i := 1) rfl
         clear c0 c2 c3 c4
         obtain ⟨ln, hln⟩ : ∃ q, q = xt.length := ⟨_, rfl⟩
         rw [← hln] at o0 c1 htl63
         have HLN := Lib.hid hln
         clear hln
         by_cases hz : ln = 0
         ·
          have hz1 : ((ln : Int) = 0) = True := eq_true (by omega)
          have hz2 : ((ln : Int) == 0) = true := by simp; omega
          have HZ := Lib.hid hz
          clear hz
          go_wp2_with fail
          refine (offer_any HTW.out.sw.s1 HTW.out.sw.q HTW.out.sw.h (by have := HNX.out; omega) hN2 HKI.out.ok HL.out hn HVD.out HTL.out (HRW.out.fut HTW.out.sw.f) k _ HEX.out).mono ?_
          rintro r w5 ⟨rfl, ⟨v5, H5, m5, nx5, q1, q2, q3⟩, q4⟩
          have HT5 := Lib.hid (HTW.out.on HXB.out (HTW.out.sw.queue HXB.out.sb q4 q1 q2))
          have HQ3 := Lib.hid q3
          clear q1 q2 q3 q4
          go_wp2_with fail
          have hO0 : O k = 0 := by rw [HOK.out, ← HLN.out, HZ.out]
          refine ⟨⟨k + 1, by omega, by go_num, Lib.hid ⟨v5, H5, m5, nx5, HT5.out, HKI.out.offered HES.out HEX.out (fun t ht => ?_) (leV_zero (ev_ok (HES.out _ HEM.out) HKI.out.ok)) O _ (fun i hi h9 => ⟨by omega, id⟩) _ ?_, ?_⟩⟩, by simp [intOf]; omega⟩
          ·
           have h8 : (xt.map Int.toNat).length = 0 := by rw [List.length_map, ← HLN.out, HZ.out]
           rw [show (toEE ⟨(h9 : Int), xt, xc, xl0, xl1, xA, xk⟩).t = [] from List.length_eq_zero_iff.1 h8] at ht
           simp at ht
          ·
           rcases HQ3.out with ⟨a1, a2, _, _, a3⟩ | ⟨a1, _, _, a2⟩
           ·
            exact .inl ⟨a1, a2, a3⟩
           ·
            exact .inr ⟨a1, a2⟩
          ·
           have := HNX.out
           rw [cnt, if_neg (by omega)]
           rcases HQ3.out with ⟨_, _, a3, _, _⟩ | ⟨_, a3, _, _⟩ <;> omega
         ·
          have hz1 : ((ln : Int) = 0) = False := eq_false (by omega)
          have hz2 : ((ln : Int) == 0) = false := by simp; omega
          have HZ := Lib.hid hz
          clear hz
          go_wp2_with fail
          have hO0 : 0 < O k := by have h8 := HZ.out; rw [HOK.out, ← HLN.out]; omega
          refine ⟨⟨k + 1, by omega, by go_num, Lib.hid ⟨v, H, m, nx, HTW.out, HKI.out.again O _ (fun i h9 h8 => ⟨?_, h8⟩), ?_⟩⟩, by simp [intOf]; omega⟩
          ·
           by_cases e : i = k
           ·
            subst e; omega
           ·
            omega
          ·
           have := HNX.out
           rw [cnt, if_pos hO0]
           omega
        ·
         have HMI := Lib.hid (show MI (EEs es) (fun _ => false) (fun _ => top) O (agL H m) [] ⟨0, 0⟩ m nx from by
          have h8 : (EEs es).length = n := by rw [List.length_map, HL.out]
          have hkn : k = n := by omega
          have h9 := HKI.out
          rw [hkn, ← h8] at h9
          refine ⟨KI.allDon h9, fun i e he => ?_, fun u hu => (by cases hu), ?_⟩
          ·
           rw [HOM.out i e he, mis_none]
          ·
           have := HNX.out
           rw [h8, ← hkn]
           exact this)
         clear HKI HNX HOM
         go_wp2_with fail
         obtain ⟨wo4, rfl⟩ : ∃ x, x = wr := ⟨_, rfl⟩
         go_loopw [14] (fun _ wr => Hid (∃ V T O v H m nx D x, TW s xb hb N n A c w wr V T O U L v H m nx (fun _ => -1) ∧ MI (EEs es) T V O (agL H m) D x m nx)) (fun _ wr => lenW wr s.qb + posW wr s.ob n)
         case atStart => exact Lib.hid ⟨_, _, _, _, _, _, _, _, _, HTW.out, HMI.out⟩
         case round =>
          clear HTW HMI
          obtain ⟨V, T, O', v', H', m', nx', D, x, hi1, hi2⟩ := hrel.out
          have HTW := Lib.hid hi1
          have HMI := Lib.hid hi2
          clear hi1 hi2 hrel
          have s6 := HTW.out.sw.s1.sv.cell (i := 6) rfl
          go_wp2_with fail
          clear s6
          refine (pop_any HTW.out.sw.q HTW.out.sw.h).mono ?_
          rintro r w5 ⟨hr, hf⟩
          rcases hr with ⟨hm0, rfl, hq⟩ | ⟨hm0, rfl, v5, H5, p1, p2, p3, p4⟩
          ·
           have HT5 := Lib.hid ((HTW.out.on HXB.out (HTW.out.sw.queue HXB.out.sb hf hq HTW.out.sw.h)).go HXB.out ((Fut.refl w5).alloc (.cells #[.int .i64 0, .int .i64 0, .int .i64 0] 78)))
           have HSOL := Lib.hid (show Sol (EEs es) V ∧ (∀ u, T u = true → (V u).c < INF) ∧ (∀ u, T u = false → V u = top) from by
            have h9 := HMI.out
            subst hm0
            exact ⟨h9.sol HES.out, h9.fin, h9.ki.un⟩)
           clear hf hq hm0 HMI HTW
           have k1 := HT5.out.h.cell (i := 1) rfl
           go_wp2_with fail
           clear k1
           generalize w5.alloc (.cells #[.int .i64 0, .int .i64 0, .int .i64 0] 78) = w6 at *
           obtain ⟨wo5, hwo5⟩ : ∃ q, q = w6 := ⟨_, rfl⟩
           rw [← hwo5] at HT5 ⊢
           clear hwo5
           go_loopw [152] (fun i wr => ∃ k : Nat, k ≤ n ∧ i = .int .i64 k ∧ Hid (TW s xb hb N n A c w wr V T O' U L v' H' m' nx' (chL V ((EEs es).take k) 0))) (fun i _ => n - (intOf i).toNat)
           case atStart => exact ⟨0, Nat.zero_le _, rfl, Lib.hid (HT5.out.as (fun _ _ => rfl) (fun i _ => by simp [chL]))⟩
           case round =>
            obtain ⟨k, hk, rfl, HTW⟩ := hrel
            clear HT5
            by_cases hlt : k < n
            ·
             obtain ⟨x, hx⟩ := get_lt HL.out (show k < n by omega)
             have hxm := List.mem_of_getElem? hx
             obtain ⟨x1, x2, x3, x4, x5⟩ := okE_parts (HVD.out x hxm)
             have hRw := HRW.out.fut (HTW.out.sw.f)
             obtain ⟨b2, o2, rfl, hc⟩ := hRw.1 k x hx
             obtain ⟨ht, _⟩ := hRw.2 x hxm
             have hxl := HTL.out x hxm
             obtain ⟨xh, xt, xc, xl0, xl1, xA, xk⟩ := x
             simp only at x1 x2 x3 x4 x5 hxl ht
             obtain ⟨h9, rfl⟩ : ∃ h : Nat, xh = h := ⟨xh.toNat, by omega⟩
             have hh9 : h9 < N := by omega
             have c0 := hc 0 _ (by decide) rfl
             have c1 := hc 1 _ (by decide) rfl
             have c2 := hc 2 _ (by decide) rfl
             have c3 := hc 3 _ (by decide) rfl
             have c4 := hc 4 _ (by decide) rfl
             simp only [Nat.add_zero] at c0
             have htl63 : xt.length ≤ 9223372036854775807 := by omega
             have HT := Lib.hid ht
             have HRX := Lib.hid (show Rd1 w xA (.int .i64 ·) xt from (HRW.out.2 _ hxm).1)
             have HXC := Lib.hid (show 0 ≤ xc ∧ xc ≤ INF from ⟨x3, x4⟩)
             have HX5 := Lib.hid x5
             have HEX := Lib.hid (show (EEs es)[k]? = some (toEE ⟨(h9 : Int), xt, xc, xl0, xl1, xA, xk⟩) from by rw [List.getElem?_map, hx]; rfl)
             have HEM := Lib.hid (show toEE ⟨(h9 : Int), xt, xc, xl0, xl1, xA, xk⟩ ∈ EEs es from List.mem_map.2 ⟨_, hxm, rfl⟩)
             clear hx hxm hc ht x5 x1 x2 x3 x4 hRw
             go_wp2_with fail
             obtain ⟨eb, heb⟩ : ∃ q, q = wr.heap.size := ⟨_, rfl⟩
             rw [← heb]
             have HEB := Lib.hid (show Blk (wr.alloc (.cells #[.int .i64 (h9 : Int), .slice xA xt.length xk, .int .i64 xc, .int .i64 xl0, .int .i64 xl1] 49)) eb 49 #[.int .i64 (h9 : Int), .slice xA xt.length xk, .int .i64 xc, .int .i64 xl0, .int .i64 xl1] from by rw [heb]; exact Blk.new wr _ _)
             have HTY := Lib.hid (HTW.out.go HXB.out ((Fut.refl wr).alloc (.cells #[.int .i64 (h9 : Int), .slice xA xt.length xk, .int .i64 xc, .int .i64 xl0, .int .i64 xl1] 49)))
             clear heb c0 c1 c2 c3 c4 HTW
             generalize wr.alloc (.cells #[.int .i64 (h9 : Int), .slice xA xt.length xk, .int .i64 xc, .int .i64 xl0, .int .i64 xl1] 49) = wx at *
             have y0 := cell_fut (HEB.out.cell (i := 0) rfl)
             have y1 := cell_fut (HEB.out.cell (i := 1) rfl)
             have y2 := cell_fut (HEB.out.cell (i := 2) rfl)
             have y3 := cell_fut (HEB.out.cell (i := 3) rfl)
             have y4 := cell_fut (HEB.out.cell (i := 4) rfl)
             have s2 := cell_fut (HTY.out.sw.s1.sv.cell (i := 2) rfl)
             have s3 := cell_fut (HTY.out.sw.s1.sv.cell (i := 3) rfl)
             obtain ⟨ce, hce⟩ : ∃ q, q = chL V ((EEs es).take k) 0 h9 := ⟨_, rfl⟩
             have x0 := World.rowIs.cell HTY.out.e hh9
             rw [← hce] at x0
             have x0 := cell_fut x0
             obtain ⟨tv, htv⟩ : ∃ q, q = T h9 := ⟨_, rfl⟩
             have t0 := World.rowIs.cell HTY.out.sw.s1.t hh9
             rw [← htv] at t0
             have t0 := cell_fut t0
             obtain ⟨zc, hzc⟩ : ∃ q, q = (V h9).c := ⟨_, rfl⟩
             obtain ⟨zs, hzs⟩ : ∃ q, q = (V h9).s := ⟨_, rfl⟩
             have v0 := HTY.out.sw.s1.v.c hh9
             have v1 := HTY.out.sw.s1.v.s hh9
             rw [← hzc] at v0
             rw [← hzs] at v1
             have v0 := cell_fut v0
             have v1 := cell_fut v1
             have HZ := Lib.hid (show V h9 = ⟨zc, zs⟩ from by rw [hzc, hzs])
             have HCE := Lib.hid hce
             have HTV := Lib.hid htv
             clear hce htv hzc hzs
             obtain ⟨y, hy⟩ : ∃ y, y = ev V (toEE ⟨(h9 : Int), xt, xc, xl0, xl1, xA, xk⟩) := ⟨_, rfl⟩
             obtain ⟨yc, ys⟩ := y
             have HY := Lib.hid hy
             clear hy
             have HCH := Lib.hid (show ∀ i, chL V ((EEs es).take (k + 1)) 0 i = if chL V ((EEs es).take k) 0 i < 0 ∧ att V i (toEE ⟨(h9 : Int), xt, xc, xl0, xl1, xA, xk⟩) = true then (k : Int) else chL V ((EEs es).take k) 0 i from fun i => by
              rw [List.take_add_one, HEX.out]
              have h9 := chL_append V ((EEs es).take k) 0 i (toEE ⟨(h9 : Int), xt, xc, xl0, xl1, xA, xk⟩) (Int.le_refl 0)
              rw [List.length_take, List.length_map, HL.out, Nat.min_eq_left (Nat.le_of_lt hlt), Int.zero_add] at h9
              exact h9)
             have HNE : Hid (∀ i, i ≠ h9 → att V i (toEE ⟨(h9 : Int), xt, xc, xl0, xl1, xA, xk⟩) = false) := Lib.hid (fun i hi => by simp only [att, toEE, Int.toNat_natCast, Bool.and_eq_false_iff]; exact .inl (.inl (decide_eq_false (fun e => hi e.symm))))
             have HAE : Hid (att V h9 (toEE ⟨(h9 : Int), xt, xc, xl0, xl1, xA, xk⟩) = (decide (zc < INF) && decide ((⟨yc, ys⟩ : VV) = ⟨zc, zs⟩))) := Lib.hid (by simp only [att, toEE, Int.toNat_natCast, decide_true, Bool.true_and]; rw [HZ.out]; congr 2; rw [HY.out, ← HZ.out]; rfl)
             by_cases hneg : ce < 0
             ·
              cases tv with
              | false =>
               have HNO := Lib.hid (show ¬ (chL V ((EEs es).take k) 0 h9 < 0 ∧ att V h9 (toEE ⟨(h9 : Int), xt, xc, xl0, xl1, xA, xk⟩) = true) from fun h8 => by
                have h7 := h8.2
                rw [HAE.out] at h7
                have h6 := HSOL.out.2.2 h9 HTV.out.symm
                rw [HZ.out] at h6
                have h5 : zc = INF := congrArg VV.c h6
                rw [h5] at h7
                simp at h7)
               refine wp_region_M o_knuth_Solve_33 (by kernel_rfl) (by kernel_rfl) (by intro c a d v w h; cases d <;> exact h) ?_; unfold o_knuth_Solve_33
               iterate 17 (refine wpF_h rfl rfl (fun K hK => ?_); go_simp; refine hK _ _ ?_; clear hK K)
               iterate 10 (refine wpF_hs2 rfl rfl (fun K hK => ?_); go_simp; refine hK _ _ ?_; clear hK K)
               (refine wpF_os2 rfl rfl (fun K hK => ?_); go_simp; refine hK _ _ ?_; clear hK K)
               (refine wpF_hs2 rfl rfl (fun K hK => ?_); go_simp; refine hK _ _ ?_; clear hK K)
               (refine wpF_h rfl rfl (fun K hK => ?_); go_simp; refine hK _ _ ?_; clear hK K)
               refine wpF_nil ?_
               have HFC := Lib.hid (Fut.refl wx).drew
               go_wp2_with fail
               refine ⟨⟨k + 1, by omega, by go_num, Lib.hid ((HTY.out.go HXB.out HFC.out).as (fun _ _ => rfl) (fun i _ => ?_))⟩, by simp [intOf]; omega⟩
               rw [HCH.out i]
               by_cases e : i = h9
               ·
                subst e; rw [if_neg HNO.out]
               ·
                rw [if_neg (fun h8 => by rw [HNE.out i e] at h8; cases h8.2)]
              | true =>
               have hfin : zc < 1099511627776 := by have h8 := HSOL.out.2.1 h9 HTV.out.symm; rw [HZ.out] at h8; exact h8
               have HSC := Lib.hid (fun w' (hf : Fut wx w') => scomb_any s.sb s.vb N V ⟨(h9 : Int), xt, xc, xl0, xl1, xA, xk⟩ w' (hf.cell (HTY.out.sw.s1.sv.cell (i := 2) rfl)) (HTY.out.sw.s1.v.fut hf) hN2 HSOL.out.1.ok HXC.out HX5.out (by simp only; omega) (HRX.out.fut (HTY.out.sw.f.trans hf)))
               refine wp_region_M o_knuth_Solve_33 (by kernel_rfl) (by kernel_rfl) (by intro c a d v w h; cases d <;> exact h) ?_; unfold o_knuth_Solve_33
               iterate 27 (refine wpF_h rfl rfl (fun K hK => ?_); go_simp; refine hK _ _ ?_; clear hK K)
               refine wpF_o rfl rfl (fun K hK => ?_)
               go_simp
               go_at_call 43
               refine (HSC.out _ (Fut.refl wx).drew).mono ?_
               rintro r wc ⟨hr, hbc⟩
               rw [← HY.out] at hr
               subst hr
               have HFC := Lib.hid (show Fut wx wc from (Fut.refl wx).drew.trans hbc)
               refine hK _ _ (.inr hbc) ?_
               clear hK K hbc
               have hd : Hid (yc = zc ∧ ys = zs) ∨ (Hid (¬ ys = zs) ∧ Hid (yc = zc)) ∨ Hid (¬ yc = zc) := by
                by_cases h1 : yc = zc
                ·
                 by_cases h2 : ys = zs
                 ·
                  exact .inl (Lib.hid ⟨h1, h2⟩)
                 ·
                  exact .inr (.inl ⟨Lib.hid h2, Lib.hid h1⟩)
                ·
                 exact .inr (.inr (Lib.hid h1))
               rcases hd with hd | ⟨hd, hd2⟩ | hd
               ·
                have k1 : (yc = zc) = True := eq_true hd.out.1
                have k2 : (ys = zs) = True := eq_true hd.out.2
                have HA2 := Lib.hid (show att V h9 (toEE ⟨(h9 : Int), xt, xc, xl0, xl1, xA, xk⟩) = true from by rw [HAE.out, show decide (zc < INF) = true from decide_eq_true hfin, hd.out.1, hd.out.2]; simp)
                iterate 2 (refine wpF_h rfl rfl (fun K hK => ?_); go_simp; refine hK _ _ ?_; clear hK K)
                refine wpF_nil ?_
                have HTC := Lib.hid (HTY.out.go HXB.out HFC.out)
                have t2 := HFC.out.cell (y0 0 #[])
                have g5 := World.rowIs.cell HTC.out.e hh9
                have g4 := World.rowIs.frozen HTC.out.e h9
                go_wp2_with fail
                refine ⟨⟨k + 1, by omega, by go_num, Lib.hid ((HTC.out.setE HXB.out h9 (k : Int)).as (fun _ _ => rfl) (fun i _ => ?_))⟩, by simp [intOf]; omega⟩
                rw [HCH.out i]
                by_cases e : i = h9
                ·
                 subst e; rw [if_pos ⟨by rw [← HCE.out]; exact hneg, HA2.out⟩, upd_same]
                ·
                 rw [if_neg (fun h8 => by rw [HNE.out i e] at h8; cases h8.2), upd_other _ _ _ _ e]
               ·
                have k1 : (yc = zc) = True := eq_true hd2.out
                have k2 : (ys = zs) = False := eq_false hd.out
                have HNO := Lib.hid (show ¬ (chL V ((EEs es).take k) 0 h9 < 0 ∧ att V h9 (toEE ⟨(h9 : Int), xt, xc, xl0, xl1, xA, xk⟩) = true) from fun h8 => by have h7 := h8.2; rw [HAE.out] at h7; simp [hd.out] at h7)
                iterate 2 (refine wpF_h rfl rfl (fun K hK => ?_); go_simp; refine hK _ _ ?_; clear hK K)
                refine wpF_nil ?_
                go_wp2_with fail
                refine ⟨⟨k + 1, by omega, by go_num, Lib.hid ((HTY.out.go HXB.out HFC.out).as (fun _ _ => rfl) (fun i _ => ?_))⟩, by simp [intOf]; omega⟩
                rw [HCH.out i]
                by_cases e : i = h9
                ·
                 subst e; rw [if_neg HNO.out]
                ·
                 rw [if_neg (fun h8 => by rw [HNE.out i e] at h8; cases h8.2)]
               ·
                have k1 : (yc = zc) = False := eq_false hd.out
                have HNO := Lib.hid (show ¬ (chL V ((EEs es).take k) 0 h9 < 0 ∧ att V h9 (toEE ⟨(h9 : Int), xt, xc, xl0, xl1, xA, xk⟩) = true) from fun h8 => by have h7 := h8.2; rw [HAE.out] at h7; simp [hd.out] at h7)
                iterate 2 (refine wpF_h rfl rfl (fun K hK => ?_); go_simp; refine hK _ _ ?_; clear hK K)
                refine wpF_nil ?_
                go_wp2_with fail
                refine ⟨⟨k + 1, by omega, by go_num, Lib.hid ((HTY.out.go HXB.out HFC.out).as (fun _ _ => rfl) (fun i _ => ?_))⟩, by simp [intOf]; omega⟩
                rw [HCH.out i]
                by_cases e : i = h9
                ·
                 subst e; rw [if_neg HNO.out]
                ·
                 rw [if_neg (fun h8 => by rw [HNE.out i e] at h8; cases h8.2)]
             ·
              have HNO := Lib.hid (show ¬ (chL V ((EEs es).take k) 0 h9 < 0 ∧ att V h9 (toEE ⟨(h9 : Int), xt, xc, xl0, xl1, xA, xk⟩) = true) from fun h8 => by have h7 := h8.1; rw [← HCE.out] at h7; exact hneg h7)
              have hneg2 : ¬ ce < 0 := hneg
              refine wp_region_M o_knuth_Solve_33 (by kernel_rfl) (by kernel_rfl) (by intro c a d v w h; cases d <;> exact h) ?_; unfold o_knuth_Solve_33
              iterate 7 (refine wpF_h rfl rfl (fun K hK => ?_); go_simp; refine hK _ _ ?_; clear hK K)
              iterate 8 (refine wpF_hs2 rfl rfl (fun K hK => ?_); go_simp; refine hK _ _ ?_; clear hK K)
              iterate 2 (refine wpF_h rfl rfl (fun K hK => ?_); go_simp; refine hK _ _ ?_; clear hK K)
              iterate 10 (refine wpF_hs2 rfl rfl (fun K hK => ?_); go_simp; refine hK _ _ ?_; clear hK K)
              (refine wpF_os2 rfl rfl (fun K hK => ?_); go_simp; refine hK _ _ ?_; clear hK K)
              (refine wpF_hs2 rfl rfl (fun K hK => ?_); go_simp; refine hK _ _ ?_; clear hK K)
              (refine wpF_h rfl rfl (fun K hK => ?_); go_simp; refine hK _ _ ?_; clear hK K)
              refine wpF_nil ?_
              have HFC := Lib.hid (Fut.refl wx).drew
              go_wp2_with fail
              refine ⟨⟨k + 1, by omega, by go_num, Lib.hid ((HTY.out.go HXB.out HFC.out).as (fun _ _ => rfl) (fun i _ => ?_))⟩, by simp [intOf]; omega⟩
              rw [HCH.out i]
              by_cases e : i = h9
              ·
               subst e; rw [if_neg HNO.out]
              ·
               rw [if_neg (fun h8 => by rw [HNE.out i e] at h8; cases h8.2)]
            ·
             have s2 := HTW.out.sw.s1.sv.cell (i := 2) rfl
             go_wp2_with fail
             go_ret2
             have hkn : (EEs es).take k = EEs es := List.take_of_length_le (by rw [List.length_map, HL.out]; omega)
             have h8 := HTW.out
             rw [hkn] at h8
             exact ⟨⟨V, s.vb, xb, rfl, HSOL.out.1, h8.sw.s1.v, h8.e, HXB.out.sb.lo.2.1, HXB.out.lo.1⟩, h8.sw.f⟩
          ·
           obtain ⟨m1, rfl⟩ : ∃ q, m' = q + 1 := ⟨m' - 1, by omega⟩
           rw [Nat.add_sub_cancel] at p1 p2 p3
           obtain ⟨n0, hn0⟩ : ∃ q, q = (H' 0).n := ⟨_, rfl⟩
           obtain ⟨yc, hyc⟩ : ∃ q, q = (H' 0).v.c := ⟨_, rfl⟩
           obtain ⟨ys, hys⟩ : ∃ q, q = (H' 0).v.s := ⟨_, rfl⟩
           have hv9 : (H' 0).v = ⟨yc, ys⟩ := by rw [hyc, hys]
           rw [← hn0, hv9]
           have HAG := Lib.hid (show ∀ d, d ∈ agL H' (m1 + 1) ↔ d = (n0, (⟨yc, ys⟩ : VV)) ∨ d ∈ agL H5 m1 from fun d => by
            have h9 := agL_of (fun c => p3 c) d
            rw [← hn0, hv9] at h9
            exact h9)
           have HMN := Lib.hid (show ∀ d ∈ agL H5 m1, leV (⟨yc, ys⟩ : VV) d.2 from fun d hd => by
            obtain ⟨k, hk, rfl⟩ := mem_agL.1 hd
            obtain ⟨j, hj, h8⟩ := (p3 (H5 k)).2 (.inr ⟨k, hk, rfl⟩)
            have h7 := bef_le (heap_min bef_wo HTW.out.sw.h j j (Nat.le_refl _) hj)
            rw [h8, hv9] at h7
            exact h7)
           have hn0N : n0 < N := by
            obtain ⟨⟨e, he, h8, _⟩, _⟩ := HMI.out.ki.cand (n0, ⟨yc, ys⟩) ((HAG.out _).2 (.inl rfl))
            obtain ⟨x9, hx9, rfl⟩ := List.mem_map.1 he
            have h7 := okE_parts (HVD.out x9 hx9)
            simp only [toEE] at h8
            omega
           have HT5 := Lib.hid ((HTW.out.on HXB.out (HTW.out.sw.queue HXB.out.sb hf p1 p2)).go HXB.out ((Fut.refl w5).alloc (.cells #[.int .i64 (n0 : Int), .int .i64 yc, .int .i64 ys] 78)))
           have HM0 := Lib.hid (show lenW wr s.qb + posW wr s.ob n = m1 + 1 + cnt O' n from by rw [lenW_eq HTW.out.sw.q, posW_eq HTW.out.sw.s1.o n (Nat.le_refl _)])
           have HCB := Lib.hid (show Blk (w5.alloc (.cells #[.int .i64 (n0 : Int), .int .i64 yc, .int .i64 ys] 78)) w5.heap.size 78 #[.int .i64 (n0 : Int), .int .i64 yc, .int .i64 ys] from Blk.new w5 _ _)
           clear hf p1 p2 p3 p4 hm0 hn0 hyc hys hv9 HTW
           go_wp2_with fail
           obtain ⟨cb, hcb⟩ : ∃ q, q = w5.heap.size := ⟨_, rfl⟩
           rw [← hcb] at HCB ⊢
           clear hcb
           generalize w5.alloc (.cells #[.int .i64 (n0 : Int), .int .i64 yc, .int .i64 ys] 78) = w6 at *
           have s3 := cell_fut (HT5.out.sw.s1.sv.cell (i := 3) rfl)
           have b0 := cell_fut (HCB.out.cell (i := 0) rfl)
           obtain ⟨tv, htv⟩ : ∃ q, q = T n0 := ⟨_, rfl⟩
           have t0 := World.rowIs.cell HT5.out.sw.s1.t hn0N
           rw [← htv] at t0
           have t0 := cell_fut t0
           have HTV := Lib.hid htv
           clear htv
           refine wp_region_M o_knuth_Solve_28 (by kernel_rfl) (by kernel_rfl) (by intro c a d v w h; cases d <;> exact h) ?_; unfold o_knuth_Solve_28
           iterate 9 (refine wpF_h rfl rfl (fun K hK => ?_); go_simp; refine hK _ _ ?_; clear hK K)
           refine wpF_nil ?_
           have HT6 := Lib.hid (HT5.out.go HXB.out (Fut.refl w6).drew)
           have HCB6 := Lib.hid HCB.out.drew
           clear s3 b0 t0 HT5 HCB
           generalize w6.drew = w7 at *
           cases tv with
           | false =>
            have b0 := HCB6.out.cell (i := 0) rfl
            have b1 := HCB6.out.cell (i := 1) rfl
            have b2 := HCB6.out.cell (i := 2) rfl
            go_wp2_with fail
            clear b0 b1 b2
            have hsj := HMI.out.settle HES.out HUC.out.1 HAG.out HTV.out.symm HMN.out
            refine (settle_any HXB.out.sb hN2 HL.out hn HVD.out HTL.out HRW.out HES.out HUC.out.1 HUC.out.2 HT6.out.sw n0 ⟨yc, ys⟩ hn0N _ _ hsj).mono ?_
            clear hsj
            rintro r w8 ⟨rfl, O8, v8, H8, m8, nx8, q1, q2, q3⟩
            have HT8 := Lib.hid (HT6.out.on HXB.out q1)
            have HM8 := Lib.hid (And.intro q2 q3)
            clear q1 q2 q3
            go_wp2_with fail
            refine ⟨Lib.hid ⟨_, _, _, _, _, _, _, _, _, HT8.out, HM8.out.1⟩, ?_⟩
            rw [HM0.out, lenW_eq HT8.out.sw.q, posW_eq HT8.out.sw.s1.o n (Nat.le_refl _)]
            have h8 := HM8.out.2
            rw [List.length_map, HL.out] at h8
            omega
           | true =>
            go_wp2_with fail
            refine ⟨Lib.hid ⟨_, _, _, _, _, _, _, _, _, HT6.out, HMI.out.drop HAG.out HTV.out.symm⟩, ?_⟩
            rw [HM0.out, lenW_eq HT6.out.sw.q, posW_eq HT6.out.sw.s1.o n (Nat.le_refl _)]
            omega
 clear hcont
 refine wp_region_M o_knuth_Solve_1 (by kernel_rfl) (by kernel_rfl) (by intro c a d v w h; cases d <;> exact h) ?_; unfold o_knuth_Solve_1
 iterate 10 (refine wpF_h rfl rfl (fun K hK => ?_); go_simp; refine hK _ _ ?_; clear hK K)
 show wpG Fut _ _ _ _ _ _ _
 refine wpG_many (List.forall_mem_cons.2 ⟨⟨_, _, rfl, if_pos rfl, fun K hK => ?_⟩, List.forall_mem_cons.2 ⟨⟨_, _, rfl, (if_neg (by decide)).trans (if_pos rfl), fun K hK => ?_⟩, List.forall_mem_cons.2 ⟨⟨_, _, rfl, (if_neg (by decide)).trans ((if_neg (by decide)).trans (if_pos rfl)), fun K hK => ?_⟩, List.forall_mem_cons.2 ⟨⟨_, _, rfl, (if_neg (by decide)).trans ((if_neg (by decide)).trans ((if_neg (by decide)).trans (if_pos rfl))), fun K hK => ?_⟩, fun _ h9 => absurd h9 (by simp)⟩⟩⟩⟩)
 ·
  go_simp
  refine hK _ _ (.inr ((Fut.refl _).alloc _)) ?_
  clear hK K
  show wpG Fut _ _ _ _ _ _ _
  refine wpG_many (List.forall_mem_cons.2 ⟨⟨_, _, rfl, if_pos rfl, fun K hK => ?_⟩, List.forall_mem_cons.2 ⟨⟨_, _, rfl, (if_neg (by decide)).trans (if_pos rfl), fun K hK => ?_⟩, List.forall_mem_cons.2 ⟨⟨_, _, rfl, (if_neg (by decide)).trans ((if_neg (by decide)).trans (if_pos rfl)), fun K hK => ?_⟩, fun _ h9 => absurd h9 (by simp)⟩⟩⟩)
  ·
   go_simp
   refine hK _ _ (.inr ((Fut.refl _).alloc _)) ?_
   clear hK K
   refine wpF_two rfl rfl (fun K hK => ?_) (fun K hK => ?_)
   ·
    go_simp
    refine hK _ _ (.inr ((Fut.refl _).alloc _)) ?_
    clear hK K
    refine wpF_o rfl rfl (fun K hK => ?_)
    go_simp
    refine hK _ _ (.inr ((Fut.refl _).alloc _)) ?_
    clear hK K
    (refine wpF_h rfl rfl (fun K hK => ?_); go_simp; refine hK _ _ ?_; clear hK K)
    refine wpF_o rfl rfl (fun K hK => ?_)
    go_simp
    refine hK _ _ (.inr ((Fut.refl _).alloc _)) ?_
    clear hK K
    (refine wpF_h rfl rfl (fun K hK => ?_); go_simp; refine hK _ _ ?_; clear hK K)
    refine wpF_nil ?_
    refine cont _ _ _ _ _ _ (Lib.hid ⟨(by show Fut _ _; repeat (first | (with_reducible assumption) | exact Fut.refl _ | exact Fut.fut _ _ _ | refine Fut.drew ?_ | refine Fut.alloc ?_ _ | refine Fut.trans ?_ (Fut.fut _ _ _) | refine Fut.trans ?_ (by assumption))), ?_, ?_, ?_, ?_, ?_, ?_, ?_, ?_⟩)
    all_goals try simp only [drew_heap, World.size_alloc]
    all_goals first | omega | (repeat (first | exact heap_new' _ _ _ (by simp only [World.size_alloc]) | refine blk_old _ _ _ _ ?_ | (show (World.alloc _ _).heap[_]? = _)))
   ·
    go_simp
    refine hK _ _ (.inr ((Fut.refl _).alloc _)) ?_
    clear hK K
    refine wpF_o rfl rfl (fun K hK => ?_)
    go_simp
    refine hK _ _ (.inr ((Fut.refl _).alloc _)) ?_
    clear hK K
    (refine wpF_h rfl rfl (fun K hK => ?_); go_simp; refine hK _ _ ?_; clear hK K)
    refine wpF_o rfl rfl (fun K hK => ?_)
    go_simp
    refine hK _ _ (.inr ((Fut.refl _).alloc _)) ?_
    clear hK K
    (refine wpF_h rfl rfl (fun K hK => ?_); go_simp; refine hK _ _ ?_; clear hK K)
    refine wpF_nil ?_
    refine cont _ _ _ _ _ _ (Lib.hid ⟨(by show Fut _ _; repeat (first | (with_reducible assumption) | exact Fut.refl _ | exact Fut.fut _ _ _ | refine Fut.drew ?_ | refine Fut.alloc ?_ _ | refine Fut.trans ?_ (Fut.fut _ _ _) | refine Fut.trans ?_ (by assumption))), ?_, ?_, ?_, ?_, ?_, ?_, ?_, ?_⟩)
    all_goals try simp only [drew_heap, World.size_alloc]
    all_goals first | omega | (repeat (first | exact heap_new' _ _ _ (by simp only [World.size_alloc]) | refine blk_old _ _ _ _ ?_ | (show (World.alloc _ _).heap[_]? = _)))
  ·
   go_simp
   refine hK _ _ (.inr ((Fut.refl _).alloc _)) ?_
   clear hK K
   refine wpF_two rfl rfl (fun K hK => ?_) (fun K hK => ?_)
   ·
    go_simp
    refine hK _ _ (.inr ((Fut.refl _).alloc _)) ?_
    clear hK K
    refine wpF_o rfl rfl (fun K hK => ?_)
    go_simp
    refine hK _ _ (.inr ((Fut.refl _).alloc _)) ?_
    clear hK K
    (refine wpF_h rfl rfl (fun K hK => ?_); go_simp; refine hK _ _ ?_; clear hK K)
    refine wpF_o rfl rfl (fun K hK => ?_)
    go_simp
    refine hK _ _ (.inr ((Fut.refl _).alloc _)) ?_
    clear hK K
    (refine wpF_h rfl rfl (fun K hK => ?_); go_simp; refine hK _ _ ?_; clear hK K)
    refine wpF_nil ?_
    refine cont _ _ _ _ _ _ (Lib.hid ⟨(by show Fut _ _; repeat (first | (with_reducible assumption) | exact Fut.refl _ | exact Fut.fut _ _ _ | refine Fut.drew ?_ | refine Fut.alloc ?_ _ | refine Fut.trans ?_ (Fut.fut _ _ _) | refine Fut.trans ?_ (by assumption))), ?_, ?_, ?_, ?_, ?_, ?_, ?_, ?_⟩)
    all_goals try simp only [drew_heap, World.size_alloc]
    all_goals first | omega | (repeat (first | exact heap_new' _ _ _ (by simp only [World.size_alloc]) | refine blk_old _ _ _ _ ?_ | (show (World.alloc _ _).heap[_]? = _)))
   ·
    go_simp
    refine hK _ _ (.inr ((Fut.refl _).alloc _)) ?_
    clear hK K
    refine wpF_o rfl rfl (fun K hK => ?_)
    go_simp
    refine hK _ _ (.inr ((Fut.refl _).alloc _)) ?_
    clear hK K
    (refine wpF_h rfl rfl (fun K hK => ?_); go_simp; refine hK _ _ ?_; clear hK K)
    refine wpF_o rfl rfl (fun K hK => ?_)
    go_simp
    refine hK _ _ (.inr ((Fut.refl _).alloc _)) ?_
    clear hK K
    (refine wpF_h rfl rfl (fun K hK => ?_); go_simp; refine hK _ _ ?_; clear hK K)
    refine wpF_nil ?_
    refine cont _ _ _ _ _ _ (Lib.hid ⟨(by show Fut _ _; repeat (first | (with_reducible assumption) | exact Fut.refl _ | exact Fut.fut _ _ _ | refine Fut.drew ?_ | refine Fut.alloc ?_ _ | refine Fut.trans ?_ (Fut.fut _ _ _) | refine Fut.trans ?_ (by assumption))), ?_, ?_, ?_, ?_, ?_, ?_, ?_, ?_⟩)
    all_goals try simp only [drew_heap, World.size_alloc]
    all_goals first | omega | (repeat (first | exact heap_new' _ _ _ (by simp only [World.size_alloc]) | refine blk_old _ _ _ _ ?_ | (show (World.alloc _ _).heap[_]? = _)))
  ·
   go_simp
   refine hK _ _ (.inr ((Fut.refl _).alloc _)) ?_
   clear hK K
   refine wpF_two rfl rfl (fun K hK => ?_) (fun K hK => ?_)
   ·
    go_simp
    refine hK _ _ (.inr ((Fut.refl _).alloc _)) ?_
    clear hK K
    refine wpF_o rfl rfl (fun K hK => ?_)
    go_simp
    refine hK _ _ (.inr ((Fut.refl _).alloc _)) ?_
    clear hK K
    (refine wpF_h rfl rfl (fun K hK => ?_); go_simp; refine hK _ _ ?_; clear hK K)
    refine wpF_o rfl rfl (fun K hK => ?_)
    go_simp
    refine hK _ _ (.inr ((Fut.refl _).alloc _)) ?_
    clear hK K
    (refine wpF_h rfl rfl (fun K hK => ?_); go_simp; refine hK _ _ ?_; clear hK K)
    refine wpF_nil ?_
    refine cont _ _ _ _ _ _ (Lib.hid ⟨(by show Fut _ _; repeat (first | (with_reducible assumption) | exact Fut.refl _ | exact Fut.fut _ _ _ | refine Fut.drew ?_ | refine Fut.alloc ?_ _ | refine Fut.trans ?_ (Fut.fut _ _ _) | refine Fut.trans ?_ (by assumption))), ?_, ?_, ?_, ?_, ?_, ?_, ?_, ?_⟩)
    all_goals try simp only [drew_heap, World.size_alloc]
    all_goals first | omega | (repeat (first | exact heap_new' _ _ _ (by simp only [World.size_alloc]) | refine blk_old _ _ _ _ ?_ | (show (World.alloc _ _).heap[_]? = _)))
   ·
    go_simp
    refine hK _ _ (.inr ((Fut.refl _).alloc _)) ?_
    clear hK K
    refine wpF_o rfl rfl (fun K hK => ?_)
    go_simp
    refine hK _ _ (.inr ((Fut.refl _).alloc _)) ?_
    clear hK K
    (refine wpF_h rfl rfl (fun K hK => ?_); go_simp; refine hK _ _ ?_; clear hK K)
    refine wpF_o rfl rfl (fun K hK => ?_)
    go_simp
    refine hK _ _ (.inr ((Fut.refl _).alloc _)) ?_
    clear hK K
    (refine wpF_h rfl rfl (fun K hK => ?_); go_simp; refine hK _ _ ?_; clear hK K)
    refine wpF_nil ?_
    refine cont _ _ _ _ _ _ (Lib.hid ⟨(by show Fut _ _; repeat (first | (with_reducible assumption) | exact Fut.refl _ | exact Fut.fut _ _ _ | refine Fut.drew ?_ | refine Fut.alloc ?_ _ | refine Fut.trans ?_ (Fut.fut _ _ _) | refine Fut.trans ?_ (by assumption))), ?_, ?_, ?_, ?_, ?_, ?_, ?_, ?_⟩)
    all_goals try simp only [drew_heap, World.size_alloc]
    all_goals first | omega | (repeat (first | exact heap_new' _ _ _ (by simp only [World.size_alloc]) | refine blk_old _ _ _ _ ?_ | (show (World.alloc _ _).heap[_]? = _)))
 ·
  go_simp
  refine hK _ _ (.inr ((Fut.refl _).alloc _)) ?_
  clear hK K
  show wpG Fut _ _ _ _ _ _ _
  refine wpG_many (List.forall_mem_cons.2 ⟨⟨_, _, rfl, if_pos rfl, fun K hK => ?_⟩, List.forall_mem_cons.2 ⟨⟨_, _, rfl, (if_neg (by decide)).trans (if_pos rfl), fun K hK => ?_⟩, List.forall_mem_cons.2 ⟨⟨_, _, rfl, (if_neg (by decide)).trans ((if_neg (by decide)).trans (if_pos rfl)), fun K hK => ?_⟩, fun _ h9 => absurd h9 (by simp)⟩⟩⟩)
  ·
   go_simp
   refine hK _ _ (.inr ((Fut.refl _).alloc _)) ?_
   clear hK K
   refine wpF_two rfl rfl (fun K hK => ?_) (fun K hK => ?_)
   ·
    go_simp
    refine hK _ _ (.inr ((Fut.refl _).alloc _)) ?_
    clear hK K
    refine wpF_o rfl rfl (fun K hK => ?_)
    go_simp
    refine hK _ _ (.inr ((Fut.refl _).alloc _)) ?_
    clear hK K
    (refine wpF_h rfl rfl (fun K hK => ?_); go_simp; refine hK _ _ ?_; clear hK K)
    refine wpF_o rfl rfl (fun K hK => ?_)
    go_simp
    refine hK _ _ (.inr ((Fut.refl _).alloc _)) ?_
    clear hK K
    (refine wpF_h rfl rfl (fun K hK => ?_); go_simp; refine hK _ _ ?_; clear hK K)
    refine wpF_nil ?_
    refine cont _ _ _ _ _ _ (Lib.hid ⟨(by show Fut _ _; repeat (first | (with_reducible assumption) | exact Fut.refl _ | exact Fut.fut _ _ _ | refine Fut.drew ?_ | refine Fut.alloc ?_ _ | refine Fut.trans ?_ (Fut.fut _ _ _) | refine Fut.trans ?_ (by assumption))), ?_, ?_, ?_, ?_, ?_, ?_, ?_, ?_⟩)
    all_goals try simp only [drew_heap, World.size_alloc]
    all_goals first | omega | (repeat (first | exact heap_new' _ _ _ (by simp only [World.size_alloc]) | refine blk_old _ _ _ _ ?_ | (show (World.alloc _ _).heap[_]? = _)))
   ·
    go_simp
    refine hK _ _ (.inr ((Fut.refl _).alloc _)) ?_
    clear hK K
    refine wpF_o rfl rfl (fun K hK => ?_)
    go_simp
    refine hK _ _ (.inr ((Fut.refl _).alloc _)) ?_
    clear hK K
    (refine wpF_h rfl rfl (fun K hK => ?_); go_simp; refine hK _ _ ?_; clear hK K)
    refine wpF_o rfl rfl (fun K hK => ?_)
    go_simp
    refine hK _ _ (.inr ((Fut.refl _).alloc _)) ?_
    clear hK K
    (refine wpF_h rfl rfl (fun K hK => ?_); go_simp; refine hK _ _ ?_; clear hK K)
    refine wpF_nil ?_
    refine cont _ _ _ _ _ _ (Lib.hid ⟨(by show Fut _ _; repeat (first | (with_reducible assumption) | exact Fut.refl _ | exact Fut.fut _ _ _ | refine Fut.drew ?_ | refine Fut.alloc ?_ _ | refine Fut.trans ?_ (Fut.fut _ _ _) | refine Fut.trans ?_ (by assumption))), ?_, ?_, ?_, ?_, ?_, ?_, ?_, ?_⟩)
    all_goals try simp only [drew_heap, World.size_alloc]
    all_goals first | omega | (repeat (first | exact heap_new' _ _ _ (by simp only [World.size_alloc]) | refine blk_old _ _ _ _ ?_ | (show (World.alloc _ _).heap[_]? = _)))
  ·
   go_simp
   refine hK _ _ (.inr ((Fut.refl _).alloc _)) ?_
   clear hK K
   refine wpF_two rfl rfl (fun K hK => ?_) (fun K hK => ?_)
   ·
    go_simp
    refine hK _ _ (.inr ((Fut.refl _).alloc _)) ?_
    clear hK K
    refine wpF_o rfl rfl (fun K hK => ?_)
    go_simp
    refine hK _ _ (.inr ((Fut.refl _).alloc _)) ?_
    clear hK K
    (refine wpF_h rfl rfl (fun K hK => ?_); go_simp; refine hK _ _ ?_; clear hK K)
    refine wpF_o rfl rfl (fun K hK => ?_)
    go_simp
    refine hK _ _ (.inr ((Fut.refl _).alloc _)) ?_
    clear hK K
    (refine wpF_h rfl rfl (fun K hK => ?_); go_simp; refine hK _ _ ?_; clear hK K)
    refine wpF_nil ?_
    refine cont _ _ _ _ _ _ (Lib.hid ⟨(by show Fut _ _; repeat (first | (with_reducible assumption) | exact Fut.refl _ | exact Fut.fut _ _ _ | refine Fut.drew ?_ | refine Fut.alloc ?_ _ | refine Fut.trans ?_ (Fut.fut _ _ _) | refine Fut.trans ?_ (by assumption))), ?_, ?_, ?_, ?_, ?_, ?_, ?_, ?_⟩)
    all_goals try simp only [drew_heap, World.size_alloc]
    all_goals first | omega | (repeat (first | exact heap_new' _ _ _ (by simp only [World.size_alloc]) | refine blk_old _ _ _ _ ?_ | (show (World.alloc _ _).heap[_]? = _)))
   ·
    go_simp
    refine hK _ _ (.inr ((Fut.refl _).alloc _)) ?_
    clear hK K
    refine wpF_o rfl rfl (fun K hK => ?_)
    go_simp
    refine hK _ _ (.inr ((Fut.refl _).alloc _)) ?_
    clear hK K
    (refine wpF_h rfl rfl (fun K hK => ?_); go_simp; refine hK _ _ ?_; clear hK K)
    refine wpF_o rfl rfl (fun K hK => ?_)
    go_simp
    refine hK _ _ (.inr ((Fut.refl _).alloc _)) ?_
    clear hK K
    (refine wpF_h rfl rfl (fun K hK => ?_); go_simp; refine hK _ _ ?_; clear hK K)
    refine wpF_nil ?_
    refine cont _ _ _ _ _ _ (Lib.hid ⟨(by show Fut _ _; repeat (first | (with_reducible assumption) | exact Fut.refl _ | exact Fut.fut _ _ _ | refine Fut.drew ?_ | refine Fut.alloc ?_ _ | refine Fut.trans ?_ (Fut.fut _ _ _) | refine Fut.trans ?_ (by assumption))), ?_, ?_, ?_, ?_, ?_, ?_, ?_, ?_⟩)
    all_goals try simp only [drew_heap, World.size_alloc]
    all_goals first | omega | (repeat (first | exact heap_new' _ _ _ (by simp only [World.size_alloc]) | refine blk_old _ _ _ _ ?_ | (show (World.alloc _ _).heap[_]? = _)))
  ·
   go_simp
   refine hK _ _ (.inr ((Fut.refl _).alloc _)) ?_
   clear hK K
   refine wpF_two rfl rfl (fun K hK => ?_) (fun K hK => ?_)
   ·
    go_simp
    refine hK _ _ (.inr ((Fut.refl _).alloc _)) ?_
    clear hK K
    refine wpF_o rfl rfl (fun K hK => ?_)
    go_simp
    refine hK _ _ (.inr ((Fut.refl _).alloc _)) ?_
    clear hK K
    (refine wpF_h rfl rfl (fun K hK => ?_); go_simp; refine hK _ _ ?_; clear hK K)
    refine wpF_o rfl rfl (fun K hK => ?_)
    go_simp
    refine hK _ _ (.inr ((Fut.refl _).alloc _)) ?_
    clear hK K
    (refine wpF_h rfl rfl (fun K hK => ?_); go_simp; refine hK _ _ ?_; clear hK K)
    refine wpF_nil ?_
    refine cont _ _ _ _ _ _ (Lib.hid ⟨(by show Fut _ _; repeat (first | (with_reducible assumption) | exact Fut.refl _ | exact Fut.fut _ _ _ | refine Fut.drew ?_ | refine Fut.alloc ?_ _ | refine Fut.trans ?_ (Fut.fut _ _ _) | refine Fut.trans ?_ (by assumption))), ?_, ?_, ?_, ?_, ?_, ?_, ?_, ?_⟩)
    all_goals try simp only [drew_heap, World.size_alloc]
    all_goals first | omega | (repeat (first | exact heap_new' _ _ _ (by simp only [World.size_alloc]) | refine blk_old _ _ _ _ ?_ | (show (World.alloc _ _).heap[_]? = _)))
   ·
    go_simp
    refine hK _ _ (.inr ((Fut.refl _).alloc _)) ?_
    clear hK K
    refine wpF_o rfl rfl (fun K hK => ?_)
    go_simp
    refine hK _ _ (.inr ((Fut.refl _).alloc _)) ?_
    clear hK K
    (refine wpF_h rfl rfl (fun K hK => ?_); go_simp; refine hK _ _ ?_; clear hK K)
    refine wpF_o rfl rfl (fun K hK => ?_)
    go_simp
    refine hK _ _ (.inr ((Fut.refl _).alloc _)) ?_
    clear hK K
    (refine wpF_h rfl rfl (fun K hK => ?_); go_simp; refine hK _ _ ?_; clear hK K)
    refine wpF_nil ?_
    refine cont _ _ _ _ _ _ (Lib.hid ⟨(by show Fut _ _; repeat (first | (with_reducible assumption) | exact Fut.refl _ | exact Fut.fut _ _ _ | refine Fut.drew ?_ | refine Fut.alloc ?_ _ | refine Fut.trans ?_ (Fut.fut _ _ _) | refine Fut.trans ?_ (by assumption))), ?_, ?_, ?_, ?_, ?_, ?_, ?_, ?_⟩)
    all_goals try simp only [drew_heap, World.size_alloc]
    all_goals first | omega | (repeat (first | exact heap_new' _ _ _ (by simp only [World.size_alloc]) | refine blk_old _ _ _ _ ?_ | (show (World.alloc _ _).heap[_]? = _)))
 ·
  go_simp
  refine hK _ _ (.inr ((Fut.refl _).alloc _)) ?_
  clear hK K
  show wpG Fut _ _ _ _ _ _ _
  refine wpG_many (List.forall_mem_cons.2 ⟨⟨_, _, rfl, if_pos rfl, fun K hK => ?_⟩, List.forall_mem_cons.2 ⟨⟨_, _, rfl, (if_neg (by decide)).trans (if_pos rfl), fun K hK => ?_⟩, List.forall_mem_cons.2 ⟨⟨_, _, rfl, (if_neg (by decide)).trans ((if_neg (by decide)).trans (if_pos rfl)), fun K hK => ?_⟩, fun _ h9 => absurd h9 (by simp)⟩⟩⟩)
  ·
   go_simp
   refine hK _ _ (.inr ((Fut.refl _).alloc _)) ?_
   clear hK K
   refine wpF_two rfl rfl (fun K hK => ?_) (fun K hK => ?_)
   ·
    go_simp
    refine hK _ _ (.inr ((Fut.refl _).alloc _)) ?_
    clear hK K
    refine wpF_o rfl rfl (fun K hK => ?_)
    go_simp
    refine hK _ _ (.inr ((Fut.refl _).alloc _)) ?_
    clear hK K
    (refine wpF_h rfl rfl (fun K hK => ?_); go_simp; refine hK _ _ ?_; clear hK K)
    refine wpF_o rfl rfl (fun K hK => ?_)
    go_simp
    refine hK _ _ (.inr ((Fut.refl _).alloc _)) ?_
    clear hK K
    (refine wpF_h rfl rfl (fun K hK => ?_); go_simp; refine hK _ _ ?_; clear hK K)
    refine wpF_nil ?_
    refine cont _ _ _ _ _ _ (Lib.hid ⟨(by show Fut _ _; repeat (first | (with_reducible assumption) | exact Fut.refl _ | exact Fut.fut _ _ _ | refine Fut.drew ?_ | refine Fut.alloc ?_ _ | refine Fut.trans ?_ (Fut.fut _ _ _) | refine Fut.trans ?_ (by assumption))), ?_, ?_, ?_, ?_, ?_, ?_, ?_, ?_⟩)
    all_goals try simp only [drew_heap, World.size_alloc]
    all_goals first | omega | (repeat (first | exact heap_new' _ _ _ (by simp only [World.size_alloc]) | refine blk_old _ _ _ _ ?_ | (show (World.alloc _ _).heap[_]? = _)))
   ·
    go_simp
    refine hK _ _ (.inr ((Fut.refl _).alloc _)) ?_
    clear hK K
    refine wpF_o rfl rfl (fun K hK => ?_)
    go_simp
    refine hK _ _ (.inr ((Fut.refl _).alloc _)) ?_
    clear hK K
    (refine wpF_h rfl rfl (fun K hK => ?_); go_simp; refine hK _ _ ?_; clear hK K)
    refine wpF_o rfl rfl (fun K hK => ?_)
    go_simp
    refine hK _ _ (.inr ((Fut.refl _).alloc _)) ?_
    clear hK K
    (refine wpF_h rfl rfl (fun K hK => ?_); go_simp; refine hK _ _ ?_; clear hK K)
    refine wpF_nil ?_
    refine cont _ _ _ _ _ _ (Lib.hid ⟨(by show Fut _ _; repeat (first | (with_reducible assumption) | exact Fut.refl _ | exact Fut.fut _ _ _ | refine Fut.drew ?_ | refine Fut.alloc ?_ _ | refine Fut.trans ?_ (Fut.fut _ _ _) | refine Fut.trans ?_ (by assumption))), ?_, ?_, ?_, ?_, ?_, ?_, ?_, ?_⟩)
    all_goals try simp only [drew_heap, World.size_alloc]
    all_goals first | omega | (repeat (first | exact heap_new' _ _ _ (by simp only [World.size_alloc]) | refine blk_old _ _ _ _ ?_ | (show (World.alloc _ _).heap[_]? = _)))
  ·
   go_simp
   refine hK _ _ (.inr ((Fut.refl _).alloc _)) ?_
   clear hK K
   refine wpF_two rfl rfl (fun K hK => ?_) (fun K hK => ?_)
   ·
    go_simp
    refine hK _ _ (.inr ((Fut.refl _).alloc _)) ?_
    clear hK K
    refine wpF_o rfl rfl (fun K hK => ?_)
    go_simp
    refine hK _ _ (.inr ((Fut.refl _).alloc _)) ?_
    clear hK K
    (refine wpF_h rfl rfl (fun K hK => ?_); go_simp; refine hK _ _ ?_; clear hK K)
    refine wpF_o rfl rfl (fun K hK => ?_)
    go_simp
    refine hK _ _ (.inr ((Fut.refl _).alloc _)) ?_
    clear hK K
    (refine wpF_h rfl rfl (fun K hK => ?_); go_simp; refine hK _ _ ?_; clear hK K)
    refine wpF_nil ?_
    refine cont _ _ _ _ _ _ (Lib.hid ⟨(by show Fut _ _; repeat (first | (with_reducible assumption) | exact Fut.refl _ | exact Fut.fut _ _ _ | refine Fut.drew ?_ | refine Fut.alloc ?_ _ | refine Fut.trans ?_ (Fut.fut _ _ _) | refine Fut.trans ?_ (by assumption))), ?_, ?_, ?_, ?_, ?_, ?_, ?_, ?_⟩)
    all_goals try simp only [drew_heap, World.size_alloc]
    all_goals first | omega | (repeat (first | exact heap_new' _ _ _ (by simp only [World.size_alloc]) | refine blk_old _ _ _ _ ?_ | (show (World.alloc _ _).heap[_]? = _)))
   ·
    go_simp
    refine hK _ _ (.inr ((Fut.refl _).alloc _)) ?_
    clear hK K
    refine wpF_o rfl rfl (fun K hK => ?_)
    go_simp
    refine hK _ _ (.inr ((Fut.refl _).alloc _)) ?_
    clear hK K
    (refine wpF_h rfl rfl (fun K hK => ?_); go_simp; refine hK _ _ ?_; clear hK K)
    refine wpF_o rfl rfl (fun K hK => ?_)
    go_simp
    refine hK _ _ (.inr ((Fut.refl _).alloc _)) ?_
    clear hK K
    (refine wpF_h rfl rfl (fun K hK => ?_); go_simp; refine hK _ _ ?_; clear hK K)
    refine wpF_nil ?_
    refine cont _ _ _ _ _ _ (Lib.hid ⟨(by show Fut _ _; repeat (first | (with_reducible assumption) | exact Fut.refl _ | exact Fut.fut _ _ _ | refine Fut.drew ?_ | refine Fut.alloc ?_ _ | refine Fut.trans ?_ (Fut.fut _ _ _) | refine Fut.trans ?_ (by assumption))), ?_, ?_, ?_, ?_, ?_, ?_, ?_, ?_⟩)
    all_goals try simp only [drew_heap, World.size_alloc]
    all_goals first | omega | (repeat (first | exact heap_new' _ _ _ (by simp only [World.size_alloc]) | refine blk_old _ _ _ _ ?_ | (show (World.alloc _ _).heap[_]? = _)))
  ·
   go_simp
   refine hK _ _ (.inr ((Fut.refl _).alloc _)) ?_
   clear hK K
   refine wpF_two rfl rfl (fun K hK => ?_) (fun K hK => ?_)
   ·
    go_simp
    refine hK _ _ (.inr ((Fut.refl _).alloc _)) ?_
    clear hK K
    refine wpF_o rfl rfl (fun K hK => ?_)
    go_simp
    refine hK _ _ (.inr ((Fut.refl _).alloc _)) ?_
    clear hK K
    (refine wpF_h rfl rfl (fun K hK => ?_); go_simp; refine hK _ _ ?_; clear hK K)
    refine wpF_o rfl rfl (fun K hK => ?_)
    go_simp
    refine hK _ _ (.inr ((Fut.refl _).alloc _)) ?_
    clear hK K
    (refine wpF_h rfl rfl (fun K hK => ?_); go_simp; refine hK _ _ ?_; clear hK K)
    refine wpF_nil ?_
    refine cont _ _ _ _ _ _ (Lib.hid ⟨(by show Fut _ _; repeat (first | (with_reducible assumption) | exact Fut.refl _ | exact Fut.fut _ _ _ | refine Fut.drew ?_ | refine Fut.alloc ?_ _ | refine Fut.trans ?_ (Fut.fut _ _ _) | refine Fut.trans ?_ (by assumption))), ?_, ?_, ?_, ?_, ?_, ?_, ?_, ?_⟩)
    all_goals try simp only [drew_heap, World.size_alloc]
    all_goals first | omega | (repeat (first | exact heap_new' _ _ _ (by simp only [World.size_alloc]) | refine blk_old _ _ _ _ ?_ | (show (World.alloc _ _).heap[_]? = _)))
   ·
    go_simp
    refine hK _ _ (.inr ((Fut.refl _).alloc _)) ?_
    clear hK K
    refine wpF_o rfl rfl (fun K hK => ?_)
    go_simp
    refine hK _ _ (.inr ((Fut.refl _).alloc _)) ?_
    clear hK K
    (refine wpF_h rfl rfl (fun K hK => ?_); go_simp; refine hK _ _ ?_; clear hK K)
    refine wpF_o rfl rfl (fun K hK => ?_)
    go_simp
    refine hK _ _ (.inr ((Fut.refl _).alloc _)) ?_
    clear hK K
    (refine wpF_h rfl rfl (fun K hK => ?_); go_simp; refine hK _ _ ?_; clear hK K)
    refine wpF_nil ?_
    refine cont _ _ _ _ _ _ (Lib.hid ⟨(by show Fut _ _; repeat (first | (with_reducible assumption) | exact Fut.refl _ | exact Fut.fut _ _ _ | refine Fut.drew ?_ | refine Fut.alloc ?_ _ | refine Fut.trans ?_ (Fut.fut _ _ _) | refine Fut.trans ?_ (by assumption))), ?_, ?_, ?_, ?_, ?_, ?_, ?_, ?_⟩)
    all_goals try simp only [drew_heap, World.size_alloc]
    all_goals first | omega | (repeat (first | exact heap_new' _ _ _ (by simp only [World.size_alloc]) | refine blk_old _ _ _ _ ?_ | (show (World.alloc _ _).heap[_]? = _)))
 ·
  go_simp
  refine hK _ _ (.inr ((Fut.refl _).alloc _)) ?_
  clear hK K
  show wpG Fut _ _ _ _ _ _ _
  refine wpG_many (List.forall_mem_cons.2 ⟨⟨_, _, rfl, if_pos rfl, fun K hK => ?_⟩, List.forall_mem_cons.2 ⟨⟨_, _, rfl, (if_neg (by decide)).trans (if_pos rfl), fun K hK => ?_⟩, List.forall_mem_cons.2 ⟨⟨_, _, rfl, (if_neg (by decide)).trans ((if_neg (by decide)).trans (if_pos rfl)), fun K hK => ?_⟩, fun _ h9 => absurd h9 (by simp)⟩⟩⟩)
  ·
   go_simp
   refine hK _ _ (.inr ((Fut.refl _).alloc _)) ?_
   clear hK K
   refine wpF_two rfl rfl (fun K hK => ?_) (fun K hK => ?_)
   ·
    go_simp
    refine hK _ _ (.inr ((Fut.refl _).alloc _)) ?_
    clear hK K
    refine wpF_o rfl rfl (fun K hK => ?_)
    go_simp
    refine hK _ _ (.inr ((Fut.refl _).alloc _)) ?_
    clear hK K
    (refine wpF_h rfl rfl (fun K hK => ?_); go_simp; refine hK _ _ ?_; clear hK K)
    refine wpF_o rfl rfl (fun K hK => ?_)
    go_simp
    refine hK _ _ (.inr ((Fut.refl _).alloc _)) ?_
    clear hK K
    (refine wpF_h rfl rfl (fun K hK => ?_); go_simp; refine hK _ _ ?_; clear hK K)
    refine wpF_nil ?_
    refine cont _ _ _ _ _ _ (Lib.hid ⟨(by show Fut _ _; repeat (first | (with_reducible assumption) | exact Fut.refl _ | exact Fut.fut _ _ _ | refine Fut.drew ?_ | refine Fut.alloc ?_ _ | refine Fut.trans ?_ (Fut.fut _ _ _) | refine Fut.trans ?_ (by assumption))), ?_, ?_, ?_, ?_, ?_, ?_, ?_, ?_⟩)
    all_goals try simp only [drew_heap, World.size_alloc]
    all_goals first | omega | (repeat (first | exact heap_new' _ _ _ (by simp only [World.size_alloc]) | refine blk_old _ _ _ _ ?_ | (show (World.alloc _ _).heap[_]? = _)))
   ·
    go_simp
    refine hK _ _ (.inr ((Fut.refl _).alloc _)) ?_
    clear hK K
    refine wpF_o rfl rfl (fun K hK => ?_)
    go_simp
    refine hK _ _ (.inr ((Fut.refl _).alloc _)) ?_
    clear hK K
    (refine wpF_h rfl rfl (fun K hK => ?_); go_simp; refine hK _ _ ?_; clear hK K)
    refine wpF_o rfl rfl (fun K hK => ?_)
    go_simp
    refine hK _ _ (.inr ((Fut.refl _).alloc _)) ?_
    clear hK K
    (refine wpF_h rfl rfl (fun K hK => ?_); go_simp; refine hK _ _ ?_; clear hK K)
    refine wpF_nil ?_
    refine cont _ _ _ _ _ _ (Lib.hid ⟨(by show Fut _ _; repeat (first | (with_reducible assumption) | exact Fut.refl _ | exact Fut.fut _ _ _ | refine Fut.drew ?_ | refine Fut.alloc ?_ _ | refine Fut.trans ?_ (Fut.fut _ _ _) | refine Fut.trans ?_ (by assumption))), ?_, ?_, ?_, ?_, ?_, ?_, ?_, ?_⟩)
    all_goals try simp only [drew_heap, World.size_alloc]
    all_goals first | omega | (repeat (first | exact heap_new' _ _ _ (by simp only [World.size_alloc]) | refine blk_old _ _ _ _ ?_ | (show (World.alloc _ _).heap[_]? = _)))
  ·
   go_simp
   refine hK _ _ (.inr ((Fut.refl _).alloc _)) ?_
   clear hK K
   refine wpF_two rfl rfl (fun K hK => ?_) (fun K hK => ?_)
   ·
    go_simp
    refine hK _ _ (.inr ((Fut.refl _).alloc _)) ?_
    clear hK K
    refine wpF_o rfl rfl (fun K hK => ?_)
    go_simp
    refine hK _ _ (.inr ((Fut.refl _).alloc _)) ?_
    clear hK K
    (refine wpF_h rfl rfl (fun K hK => ?_); go_simp; refine hK _ _ ?_; clear hK K)
    refine wpF_o rfl rfl (fun K hK => ?_)
    go_simp
    refine hK _ _ (.inr ((Fut.refl _).alloc _)) ?_
    clear hK K
    (refine wpF_h rfl rfl (fun K hK => ?_); go_simp; refine hK _ _ ?_; clear hK K)
    refine wpF_nil ?_
    refine cont _ _ _ _ _ _ (Lib.hid ⟨(by show Fut _ _; repeat (first | (with_reducible assumption) | exact Fut.refl _ | exact Fut.fut _ _ _ | refine Fut.drew ?_ | refine Fut.alloc ?_ _ | refine Fut.trans ?_ (Fut.fut _ _ _) | refine Fut.trans ?_ (by assumption))), ?_, ?_, ?_, ?_, ?_, ?_, ?_, ?_⟩)
    all_goals try simp only [drew_heap, World.size_alloc]
    all_goals first | omega | (repeat (first | exact heap_new' _ _ _ (by simp only [World.size_alloc]) | refine blk_old _ _ _ _ ?_ | (show (World.alloc _ _).heap[_]? = _)))
   ·
    go_simp
    refine hK _ _ (.inr ((Fut.refl _).alloc _)) ?_
    clear hK K
    refine wpF_o rfl rfl (fun K hK => ?_)
    go_simp
    refine hK _ _ (.inr ((Fut.refl _).alloc _)) ?_
    clear hK K
    (refine wpF_h rfl rfl (fun K hK => ?_); go_simp; refine hK _ _ ?_; clear hK K)
    refine wpF_o rfl rfl (fun K hK => ?_)
    go_simp
    refine hK _ _ (.inr ((Fut.refl _).alloc _)) ?_
    clear hK K
    (refine wpF_h rfl rfl (fun K hK => ?_); go_simp; refine hK _ _ ?_; clear hK K)
    refine wpF_nil ?_
    refine cont _ _ _ _ _ _ (Lib.hid ⟨(by show Fut _ _; repeat (first | (with_reducible assumption) | exact Fut.refl _ | exact Fut.fut _ _ _ | refine Fut.drew ?_ | refine Fut.alloc ?_ _ | refine Fut.trans ?_ (Fut.fut _ _ _) | refine Fut.trans ?_ (by assumption))), ?_, ?_, ?_, ?_, ?_, ?_, ?_, ?_⟩)
    all_goals try simp only [drew_heap, World.size_alloc]
    all_goals first | omega | (repeat (first | exact heap_new' _ _ _ (by simp only [World.size_alloc]) | refine blk_old _ _ _ _ ?_ | (show (World.alloc _ _).heap[_]? = _)))
  ·
   go_simp
   refine hK _ _ (.inr ((Fut.refl _).alloc _)) ?_
   clear hK K
   refine wpF_two rfl rfl (fun K hK => ?_) (fun K hK => ?_)
   ·
    go_simp
    refine hK _ _ (.inr ((Fut.refl _).alloc _)) ?_
    clear hK K
    refine wpF_o rfl rfl (fun K hK => ?_)
    go_simp
    refine hK _ _ (.inr ((Fut.refl _).alloc _)) ?_
    clear hK K
    (refine wpF_h rfl rfl (fun K hK => ?_); go_simp; refine hK _ _ ?_; clear hK K)
    refine wpF_o rfl rfl (fun K hK => ?_)
    go_simp
    refine hK _ _ (.inr ((Fut.refl _).alloc _)) ?_
    clear hK K
    (refine wpF_h rfl rfl (fun K hK => ?_); go_simp; refine hK _ _ ?_; clear hK K)
    refine wpF_nil ?_
    refine cont _ _ _ _ _ _ (Lib.hid ⟨(by show Fut _ _; repeat (first | (with_reducible assumption) | exact Fut.refl _ | exact Fut.fut _ _ _ | refine Fut.drew ?_ | refine Fut.alloc ?_ _ | refine Fut.trans ?_ (Fut.fut _ _ _) | refine Fut.trans ?_ (by assumption))), ?_, ?_, ?_, ?_, ?_, ?_, ?_, ?_⟩)
    all_goals try simp only [drew_heap, World.size_alloc]
    all_goals first | omega | (repeat (first | exact heap_new' _ _ _ (by simp only [World.size_alloc]) | refine blk_old _ _ _ _ ?_ | (show (World.alloc _ _).heap[_]? = _)))
   ·
    go_simp
    refine hK _ _ (.inr ((Fut.refl _).alloc _)) ?_
    clear hK K
    refine wpF_o rfl rfl (fun K hK => ?_)
    go_simp
    refine hK _ _ (.inr ((Fut.refl _).alloc _)) ?_
    clear hK K
    (refine wpF_h rfl rfl (fun K hK => ?_); go_simp; refine hK _ _ ?_; clear hK K)
    refine wpF_o rfl rfl (fun K hK => ?_)
    go_simp
    refine hK _ _ (.inr ((Fut.refl _).alloc _)) ?_
    clear hK K
    (refine wpF_h rfl rfl (fun K hK => ?_); go_simp; refine hK _ _ ?_; clear hK K)
    refine wpF_nil ?_
    refine cont _ _ _ _ _ _ (Lib.hid ⟨(by show Fut _ _; repeat (first | (with_reducible assumption) | exact Fut.refl _ | exact Fut.fut _ _ _ | refine Fut.drew ?_ | refine Fut.alloc ?_ _ | refine Fut.trans ?_ (Fut.fut _ _ _) | refine Fut.trans ?_ (by assumption))), ?_, ?_, ?_, ?_, ?_, ?_, ?_, ?_⟩)
    all_goals try simp only [drew_heap, World.size_alloc]
    all_goals first | omega | (repeat (first | exact heap_new' _ _ _ (by simp only [World.size_alloc]) | refine blk_old _ _ _ _ ?_ | (show (World.alloc _ _).heap[_]? = _)))
end Go.Proofs.YtajbmdjlfniofaaDoor
