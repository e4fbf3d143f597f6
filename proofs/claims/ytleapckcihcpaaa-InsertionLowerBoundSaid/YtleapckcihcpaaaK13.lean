/-
  The solver: settle.
-/
import Derived.Test.YtleapckcihcpaaaK12
import Derived.Test.YtleapckcihcpaaaPset
namespace Go.Proofs.Ytleapckcihcpaaa
open Go.RowKit Go.Deep PK
attribute [local go_sem] Oper.lit Oper.litS fut_fut fut_drew World.cell?_alloc_some
attribute [local go_sem] fut_base_drew
theorem sq_lo {s : SB} {lo : Nat} {v : Value} {H : Nat → EN} {m nx : Nat} {w : World} (hb : SBok s lo) (hq : QS w s.qb s.mb s.B v H m nx) : ∀ k, SQ s.qb s.mb v k = true → lo ≤ k := by
  intro k hk
  simp only [SQ, Bool.or_eq_true, beq_iff_eq] at hk
  obtain ⟨hlo, hhi, _⟩ := hb
  rcases hk with (hk | hk) | hk
  · omega
  · omega
  · have := (World.ownsRow.lt hq.own k hk).1
    omega
theorem own_le {w : World} {B sz n : Nat} {E : TypeId} {v : Value} {xs : List Value} (h : w.ownsRow B E sz v n xs) : n ≤ maxLen := by
  obtain ⟨_, ⟨_, hn⟩ | ⟨g, cap, cur, _, _, _, h3, h4, _⟩⟩ := h
  · omega
  · omega
/-- a block that is none of the solver's -/
def SB.oth (s : SB) (b : Nat) : Prop := b < s.B ∧ b ≠ s.sb ∧ b ≠ s.vb ∧ b ≠ s.tb ∧ b ≠ s.ob ∧ b ≠ s.ub ∧ b ≠ s.qb ∧ b ≠ s.mb
/-- the solver's state, whole; X: what the other blocks before B hold -/
structure SW (X : Nat → Option Obj) (s : SB) (N n : Nat) (A : Option Addr) (c : Nat) (w0 wr : World) (V : Nat → VV) (T : Nat → Bool) (O : Nat → Nat) (U : Nat → Value) (L : Nat → List Nat) (v : Value) (H : Nat → EN) (m nx : Nat) : Prop where
  s1 : S1 s N n A c wr V T O U L
  q : QS wr s.qb s.mb s.B v H m nx
  h : HeapOK bef H m
  f : Fut w0 wr
  kp : ∀ b, s.oth b → wr.heap[b]? = X b
theorem SW.go {X : Nat → Option Obj} {s : SB} {N n : Nat} {A : Option Addr} {c : Nat} {w0 wr w2 : World} {V : Nat → VV} {T : Nat → Bool} {O : Nat → Nat} {U : Nat → Value} {L : Nat → List Nat} {v : Value} {H : Nat → EN} {m nx : Nat} (h : SW X s N n A c w0 wr V T O U L v H m nx) (hf : Fut wr w2) : SW X s N n A c w0 w2 V T O U L v H m nx :=
  ⟨h.s1.go hf, h.q.go hf, h.h, h.f.trans hf, fun b hb => (hf.block b (Nat.lt_of_lt_of_le hb.1 h.q.sz)).trans (h.kp b hb)⟩
/-- a queue kept while a block that is none of its own is written -/
theorem QS.setO {w : World} {s : SB} {lo : Nat} (_hb : SBok s lo) {v : Value} {H : Nat → EN} {m nx : Nat} (h : QS w s.qb s.mb s.B v H m nx) {a : Addr} (h1 : a.block < s.B) (h2 : a.block ≠ s.qb) (h3 : a.block ≠ s.mb) (u : Value) : QS (w.setCell a u) s.qb s.mb s.B v H m nx :=
  h.setOther (fun k hk e => by
    subst e
    simp only [SQ, Bool.or_eq_true, beq_iff_eq] at hk
    rcases hk with (hk | hk) | hk
    · exact h2 hk
    · exact h3 hk
    · have := (World.ownsRow.lt h.own _ hk).1
      omega) u
theorem Uses.setO {w : World} {B u n : Nat} {U : Nat → Value} {L : Nat → List Nat} (h : Uses w B u n U L) {a : Addr} (ha : a.block < B) (hu : a.block ≠ u) (x : Value) : Uses (w.setCell a x) B u n U L :=
  h.futS (S := fun k => k == a.block) (futS_set _ _ _ (by simp)) (by simp; exact fun e => hu e.symm) (fun i hi g hg => by
    have := (World.ownsRow.lt (h.own i hi) g hg).1
    simp
    omega)
section
variable {X : Nat → Option Obj} {s : SB} {N n : Nat} {A : Option Addr} {c : Nat} {w0 wr w2 : World} {V : Nat → VV} {T : Nat → Bool} {O : Nat → Nat} {U : Nat → Value} {L : Nat → List Nat} {v : Value} {H : Nat → EN} {m nx : Nat}
theorem SW.setT (h : SW X s N n A c w0 wr V T O U L v H m nx) (hb : SBok s w0.heap.size) (i : Nat) (x : Bool) : SW X s N n A c w0 (wr.setCell ⟨s.tb, i, none⟩ (.bool x)) V (upd T i x) O U L v H m nx :=
  ⟨⟨h.s1.sv.setOther (a := ⟨s.tb, i, none⟩) hb.n1.2.1 _, World.rowIs.setOther h.s1.v (a := ⟨s.tb, i, none⟩) hb.n2.1 _, RowB.set h.s1.t i x, World.rowIs.setOther h.s1.o (a := ⟨s.tb, i, none⟩) (Ne.symm hb.n3.1) _, h.s1.u.setO (a := ⟨s.tb, i, none⟩) hb.hi.2.2.1 hb.n3.2.1 _⟩, h.q.setO hb (a := ⟨s.tb, i, none⟩) hb.hi.2.2.1 hb.n3.2.2.1 hb.n3.2.2.2 _, h.h, h.f.setCell (p := ⟨s.tb, i, none⟩) hb.lo.2.2.1 _, fun b h9 => (blk_setCell_other _ ⟨s.tb, i, none⟩ _ _ h9.2.2.2.1).trans (h.kp b h9)⟩
theorem SW.setO (h : SW X s N n A c w0 wr V T O U L v H m nx) (hb : SBok s w0.heap.size) (i x : Nat) : SW X s N n A c w0 (wr.setCell ⟨s.ob, i, none⟩ (nv x)) V T (upd O i x) U L v H m nx :=
  ⟨⟨h.s1.sv.setOther (a := ⟨s.ob, i, none⟩) hb.n1.2.2.1 _, World.rowIs.setOther h.s1.v (a := ⟨s.ob, i, none⟩) hb.n2.2.1 _, World.rowIs.setOther h.s1.t (a := ⟨s.ob, i, none⟩) hb.n3.1 _, RowN.set h.s1.o i x, h.s1.u.setO (a := ⟨s.ob, i, none⟩) hb.hi.2.2.2.1 hb.n4.1 _⟩, h.q.setO hb (a := ⟨s.ob, i, none⟩) hb.hi.2.2.2.1 hb.n4.2.1 hb.n4.2.2 _, h.h, h.f.setCell (p := ⟨s.ob, i, none⟩) hb.lo.2.2.2.1 _, fun b h9 => (blk_setCell_other _ ⟨s.ob, i, none⟩ _ _ h9.2.2.2.2.1).trans (h.kp b h9)⟩
theorem SW.setV (h : SW X s N n A c w0 wr V T O U L v H m nx) (hb : SBok s w0.heap.size) (i : Nat) (x : VV) : SW X s N n A c w0 ((wr.setCell ⟨s.vb, i * 2, none⟩ (.int .i64 x.c)).setCell ⟨s.vb, i * 2 + 1, none⟩ (.int .i64 x.s)) (upd V i x) T O U L v H m nx :=
  ⟨⟨(h.s1.sv.setOther (a := ⟨s.vb, i * 2, none⟩) hb.n1.1 _).setOther (a := ⟨s.vb, i * 2 + 1, none⟩) hb.n1.1 _, h.s1.v.set i x, World.rowIs.setOther (World.rowIs.setOther h.s1.t (a := ⟨s.vb, i * 2, none⟩) (Ne.symm hb.n2.1) _) (a := ⟨s.vb, i * 2 + 1, none⟩) (Ne.symm hb.n2.1) _, World.rowIs.setOther (World.rowIs.setOther h.s1.o (a := ⟨s.vb, i * 2, none⟩) (Ne.symm hb.n2.2.1) _) (a := ⟨s.vb, i * 2 + 1, none⟩) (Ne.symm hb.n2.2.1) _, (h.s1.u.setO (a := ⟨s.vb, i * 2, none⟩) hb.hi.2.1 hb.n2.2.2.1 _).setO (a := ⟨s.vb, i * 2 + 1, none⟩) hb.hi.2.1 hb.n2.2.2.1 _⟩,
    (h.q.setO hb (a := ⟨s.vb, i * 2, none⟩) hb.hi.2.1 hb.n2.2.2.2.1 hb.n2.2.2.2.2 _).setO hb (a := ⟨s.vb, i * 2 + 1, none⟩) hb.hi.2.1 hb.n2.2.2.2.1 hb.n2.2.2.2.2 _, h.h, (h.f.setCell (p := ⟨s.vb, i * 2, none⟩) hb.lo.2.1 _).setCell (p := ⟨s.vb, i * 2 + 1, none⟩) hb.lo.2.1 _, fun b h9 => (blk_setCell_other _ ⟨s.vb, i * 2 + 1, none⟩ _ _ h9.2.2.1).trans ((blk_setCell_other _ ⟨s.vb, i * 2, none⟩ _ _ h9.2.2.1).trans (h.kp b h9))⟩
/-- behind an operation of the queue -/
theorem SW.queue (h : SW X s N n A c w0 wr V T O U L v H m nx) (hb : SBok s w0.heap.size) {v' : Value} {H' : Nat → EN} {m' nx' : Nat} (hf : FutS (SQ s.qb s.mb v) wr w2) (hq : QS w2 s.qb s.mb s.B v' H' m' nx') (hh : HeapOK bef H' m') : SW X s N n A c w0 w2 V T O U L v' H' m' nx' :=
  ⟨h.s1.queue hb h.q hf, hq, hh, hf.fut h.f (sq_lo hb h.q), fun b h9 => (hf.block b (Nat.lt_of_lt_of_le h9.1 h.q.sz) (by
    cases e : SQ s.qb s.mb v b with
    | false => rfl
    | true =>
      exfalso
      simp only [SQ, Bool.or_eq_true, beq_iff_eq] at e
      rcases e with (e | e) | e
      · exact h9.2.2.2.2.2.2.1 e
      · exact h9.2.2.2.2.2.2.2 e
      · have := (World.ownsRow.lt h.q.own b e).1
        have := h9.1
        omega)).trans (h.kp b h9)⟩
end
set_option maxHeartbeats 6400000 in
theorem settle_any {X : Nat → Option Obj} {s : SB} {N n : Nat} {A : Option Addr} {c : Nat} {w0 wr : World} {V : Nat → VV} {T : Nat → Bool} {O : Nat → Nat} {U : Nat → Value} {L : Nat → List Nat} {v : Value} {H : Nat → EN} {m nx : Nat} {es : List EI}
    (hb : SBok s w0.heap.size) (hN : N ≤ 1048576) (hl : es.length = n) (hn : n ≤ 1000000) (hvd : ∀ e ∈ es, okE (N : Int) e = true) (htl : ∀ e ∈ es, e.t.length ≤ 1000000) (hR : RdE w0 A es) (hes : ∀ e ∈ EEs es, PK.okE e) (hL : UseC (EEs es) L) (hLb : ∀ v, ∀ i ∈ L v, i < n)
    (h : SW X s N n A c w0 wr V T O U L v H m nx) (u : Nat) (x : VV) (hu : u < N) (M : Nat) (D : List Nat) (hj : SJ (EEs es) u (L u) 0 M (upd T u true) (upd V u x) O (agL H m) D x m nx) :
    Calls Try.prog 44 #[.pointer (some ⟨s.sb, 0, none⟩), cv (u : Int) x] wr fun r w' => r = .returned (.tuple #[]) ∧ ∃ O' v' H' m' nx', SW X s N n A c w0 w' (upd V u x) (upd T u true) O' U L v' H' m' nx' ∧ MI (EEs es) (upd T u true) (upd V u x) O' (agL H' m') D x m' nx' ∧ m' + cnt O' n ≤ M := by
  obtain ⟨xc, xs⟩ := x
  have HBS := Lib.hid hb
  have HL := Lib.hid hl
  have HVD := Lib.hid hvd
  have HTL := Lib.hid htl
  have HR := Lib.hid hR
  have HES := Lib.hid hes
  have HUC := Lib.hid (And.intro hL hLb)
  have HJ := Lib.hid hj
  have hn63 : n ≤ 9223372036854775807 := by omega
  have HW0 := Lib.hid (h.go ((Fut.refl wr).alloc (.cells #[.int .i64 (u : Int), .int .i64 xc, .int .i64 xs] 82)))
  have HB0 := Lib.hid (show Blk (wr.alloc (.cells #[.int .i64 (u : Int), .int .i64 xc, .int .i64 xs] 82)) wr.heap.size 82 #[.int .i64 (u : Int), .int .i64 xc, .int .i64 xs] from Blk.new wr _ _)
  clear hb hl hvd htl hR hes hL hLb h hj
  go_enter Try.func44, Try.ntmps44
  go_wp2_with fail
  obtain ⟨cb, hcb⟩ : ∃ q, q = wr.heap.size := ⟨_, rfl⟩
  rw [← hcb] at HB0 ⊢
  have HCB := Lib.hid hcb
  clear hcb
  generalize wr.alloc (.cells #[.int .i64 (u : Int), .int .i64 xc, .int .i64 xs] 82) = wa at *
  obtain ⟨S, hS⟩ : ∃ S : Nat → Bool, S = fun q => q == s.tb || q == s.vb := ⟨_, rfl⟩
  have HST := Lib.hid (show S s.tb = true from by rw [hS]; simp)
  have HSV := Lib.hid (show S s.vb = true from by rw [hS]; simp)
  have hSs : S s.sb = false := by
    rw [hS]
    have := HBS.out.n1
    simp
    omega
  have HWS := Lib.hid HW0.out.s1.sv
  have hSc : S cb = false := by
    cases e : S cb with
    | false => rfl
    | true =>
      exfalso
      rw [hS] at e
      simp only [Bool.or_eq_true, beq_iff_eq] at e
      rcases e with e | e
      · obtain ⟨_, hx, _⟩ := HW0.out.s1.t
        have hy := HB0.out
        unfold Blk at hy
        rw [e, hx] at hy
        simp at hy
      · obtain ⟨_, hx, _⟩ := HW0.out.s1.v
        have hy := HB0.out
        unfold Blk at hy
        rw [e, hx] at hy
        simp at hy
  clear hS
  have s2 := cell_futS (HW0.out.s1.sv.cell (i := 2) rfl) hSs
  have s3 := cell_futS (HW0.out.s1.sv.cell (i := 3) rfl) hSs
  have b0 := cell_futS (HB0.out.cell (i := 0) rfl) hSc
  have b1 := cell_futS (HB0.out.cell (i := 1) rfl) hSc
  have b2 := cell_futS (HB0.out.cell (i := 2) rfl) hSc
  have HSC := Lib.hid hSc
  clear hSs hSc
  refine wp_region_MG (relS S) o_knuth_solver_settle_1 (by kernel_rfl) (by kernel_rfl) (by intro c a d v w h; cases d <;> exact h) ?_; unfold o_knuth_solver_settle_1
  iterate 15 (refine wpS_h rfl rfl (fun K hK => ?_); go_simp; refine hK _ _ ?_; clear hK K)
  refine wpG_o rfl rfl (fun K hK => ?_)
  have t0 := World.rowIs.cell HW0.out.s1.t hu
  have f0 := World.rowIs.frozen HW0.out.s1.t u
  go_simp
  refine (show K _ (wa.setCell ⟨s.tb, u, none⟩ (.bool true)).drew from hK _ _ (.inr (show FutS S wa.drew (wa.setCell ⟨s.tb, u, none⟩ (.bool true)).drew from by have h9 := futS_set (S := S) wa ⟨s.tb, u, none⟩ (.bool true) HST.out; exact ⟨h9.os, h9.tape, h9.output, h9.size, h9.block⟩)) ?_)
  clear hK K s2 s3 b0 b1 b2 t0 f0
  have HW1 := Lib.hid ((HW0.out.setT HBS.out u true).go (Fut.refl _).drew)
  have HB1 := Lib.hid (show Blk (wa.setCell ⟨s.tb, u, none⟩ (.bool true)).drew cb 82 #[.int .i64 (u : Int), .int .i64 xc, .int .i64 xs] from (HB0.out.setOther (a := ⟨s.tb, u, none⟩) (fun e => by have := HSC.out; rw [e] at this; rw [HST.out] at this; cases this) _).drew)
  generalize (wa.setCell ⟨s.tb, u, none⟩ (.bool true)).drew = wb at *
  clear HW0 HB0
  (refine wpS_h rfl rfl (fun K hK => ?_); go_simp; refine hK _ _ ?_; clear hK K)
  refine wpG_o rfl rfl (fun K hK => ?_)
  have v0 := HW1.out.s1.v.c hu
  have v1 := HW1.out.s1.v.s hu
  have f0 := World.rowIs.frozen HW1.out.s1.v (u * 2)
  have f1 := World.rowIs.frozen HW1.out.s1.v (u * 2 + 1)
  go_simp
  refine hK _ _ (.inr ((relS S).trans (futS_set _ _ _ HSV.out) (futS_set _ _ _ HSV.out))) ?_
  clear hK K v0 v1 f0 f1
  have HW2 := Lib.hid (HW1.out.setV HBS.out u ⟨xc, xs⟩)
  have HB2 := Lib.hid (show Blk ((wb.setCell ⟨s.vb, u * 2, none⟩ (.int .i64 xc)).setCell ⟨s.vb, u * 2 + 1, none⟩ (.int .i64 xs)) cb 82 #[.int .i64 (u : Int), .int .i64 xc, .int .i64 xs] from (HB1.out.setOther (a := ⟨s.vb, u * 2, none⟩) (fun e => by have := HSC.out; rw [e] at this; rw [HSV.out] at this; cases this) _).setOther (a := ⟨s.vb, u * 2 + 1, none⟩) (fun e => by have := HSC.out; rw [e] at this; rw [HSV.out] at this; cases this) _)
  generalize (wb.setCell ⟨s.vb, u * 2, none⟩ (.int .i64 xc)).setCell ⟨s.vb, u * 2 + 1, none⟩ (.int .i64 xs) = wd at *
  clear HW1 HB1 HST HSV HSC HWS HCB
  refine wpG_nil ?_
  obtain ⟨UA, uc, hUU, _⟩ := own_form (HW2.out.s1.u.own u hu)
  have HUU := Lib.hid hUU
  have s5 := cell_fut (HW2.out.s1.sv.cell (i := 5) rfl)
  have b0 := cell_fut (HB2.out.cell (i := 0) rfl)
  have u0 := World.rowIs.cell HW2.out.s1.u.row hu
  rw [hUU] at u0
  have u0 := cell_fut u0
  clear hUU
  go_wp2_with fail
  refine wp_region_M o_knuth_solver_settle_2 (by kernel_rfl) (by kernel_rfl) (by intro c a d v w h; cases d <;> exact h) ?_; unfold o_knuth_solver_settle_2
  iterate 10 (refine wpF_h rfl rfl (fun K hK => ?_); go_simp; refine hK _ _ ?_; clear hK K)
  refine wpF_nil ?_
  have HW3 := Lib.hid (HW2.out.go (Fut.refl wd).drew)
  generalize wd.drew = we at *
  clear HW2 HB2 s5 b0 u0
  obtain ⟨ln, hln⟩ : ∃ q, q = (L u).length := ⟨_, rfl⟩
  have HLN := Lib.hid hln
  rw [← hln]
  clear hln
  have hln63 : ln ≤ 9223372036854775807 := by have h9 := own_le (HW3.out.s1.u.own u hu); rw [← HLN.out] at h9; exact h9
  go_wp2_with fail
  go_loopw [31] (fun i wr => ∃ p : Nat, p ≤ ln ∧ i = .int .i64 p ∧ Hid (∃ O' v' H' m' nx', SW X s N n A c w0 wr (upd V u ⟨xc, xs⟩) (upd T u true) O' U L v' H' m' nx' ∧ SJ (EEs es) u (L u) p M (upd T u true) (upd V u ⟨xc, xs⟩) O' (agL H' m') D ⟨xc, xs⟩ m' nx')) (fun i _ => ln - (intOf i).toNat)
  case atStart => exact ⟨0, Nat.zero_le _, rfl, Lib.hid ⟨O, v, H, m, nx, HW3.out, HJ.out⟩⟩
  case round =>
    obtain ⟨p, hp, rfl, HI⟩ := hrel
    obtain ⟨O', v', H', m', nx', hw, hsj⟩ := HI.out
    have HW := Lib.hid hw
    have HS := Lib.hid hsj
    clear HI HW3 HJ hw hsj
    by_cases hlt : p < ln
    · obtain ⟨k, hk⟩ := get_lt HLN.out.symm hlt
      obtain ⟨e, he, hOk, hue⟩ := HS.out.at HUC.out.1 hk (fun i hi => by rw [List.length_map, HL.out]; exact HUC.out.2 u i hi)
      have hkn : k < n := HUC.out.2 u k (List.mem_of_getElem? hk)
      have hown := HW.out.s1.u.own u hu
      rw [HUU.out, ← HLN.out] at hown
      have hown2 : wr.ownsRow s.B 3 1 (.slice UA ln uc) (L u).length ((L u).map nv) := hown
      rw [← HLN.out] at hown2
      obtain ⟨gb, go, rfl, hck⟩ := Rd1.of_own (f := nv) (l := L u) hown2 p k hk
      clear hown2
      have s4 := HW.out.s1.sv.cell (i := 4) rfl
      have o0 := World.rowIs.cell HW.out.s1.o hkn
      have f0 := World.rowIs.frozen HW.out.s1.o k
      have HK := Lib.hid hk
      have HE := Lib.hid he
      have HOK := Lib.hid hOk
      have HUE := Lib.hid hue
      obtain ⟨o1, ho1⟩ : ∃ q, q = O' k := ⟨_, rfl⟩
      rw [← ho1] at o0
      have HO1 := Lib.hid ho1
      obtain ⟨o3, ho3⟩ : ∃ q, o1 = q + 1 := ⟨o1 - 1, by omega⟩
      subst ho3
      have hsub : ((o3 + 1 : Nat) : Int) - 1 = (o3 : Int) := by omega
      have hob : o3 ≤ 3000000 := by
        have h8 := HS.out.om k e he
        have h7 : mis (upd T u true) e.t ≤ e.t.length := List.countP_le_length
        have h6 : ((L u).drop p).count k ≤ (L u).count k := (List.drop_sublist p (L u)).count_le k
        have h5 := HUC.out.1 u k e he
        have h4 : e.t.count u ≤ e.t.length := List.count_le_length
        have h3 : e.t.length ≤ 1000000 := by
          obtain ⟨x9, hx9⟩ := get_lt HL.out hkn
          rw [List.getElem?_map, hx9] at he
          obtain rfl := Option.some.inj he
          simpa [toEE] using HTL.out x9 (List.mem_of_getElem? hx9)
        omega
      clear hk he hOk hue hown ho1
      have HB3 := Lib.hid (show O' k - 1 = o3 from by have := HO1.out; omega)
      have HW4 := Lib.hid (HW.out.setO HBS.out k o3)
      have o4 := World.rowIs.cell HW4.out.s1.o hkn
      rw [upd_same] at o4
      have s8 := HW4.out.s1.sv.cell (i := 4) rfl
      by_cases h30 : o3 = 0
      · have H30 := Lib.hid h30
        have hz : ((o3 : Int) = 0) = True := eq_true (by omega)
        have hz2 : ((o3 : Int) == 0) = true := by simp; omega
        clear h30
        go_wp2_with fail
        generalize wr.setCell ⟨s.ob, k, none⟩ (.int .i64 (o3 : Int)) = w4 at *
        refine (offer_any HW4.out.s1 HW4.out.q HW4.out.h (by have := HS.out.nx; rw [List.length_map, HL.out] at this; omega) hN HS.out.ki.ok HL.out hn HVD.out HTL.out (HR.out.fut HW4.out.f) k e HE.out).mono ?_
        rintro r w5 ⟨rfl, ⟨v5, H5, m5, nx5, q1, q2, q3⟩, q4⟩
        have HW5 := Lib.hid (HW4.out.queue HBS.out q4 q1 q2)
        have HS5 := Lib.hid (HS.out.offer HES.out HK.out HOK.out (by rw [HB3.out]; exact H30.out) HE.out HUE.out q3)
        clear q1 q2 q3 q4
        go_wp2_with fail
        exact ⟨⟨p + 1, by omega, by go_num, Lib.hid ⟨_, v5, H5, m5, nx5, by rw [HB3.out]; exact HW5.out, HS5.out⟩⟩, by simp [intOf]; omega⟩
      · have hz : ((o3 : Int) = 0) = False := eq_false (by omega)
        have hz2 : ((o3 : Int) == 0) = false := by simp; omega
        go_wp2_with fail
        refine ⟨⟨p + 1, by omega, by go_num, Lib.hid ⟨_, v', H', m', nx', ?_, HS.out.skip HK.out (by rw [List.length_map, HL.out]; exact hkn) HOK.out (by rw [HB3.out]; exact h30)⟩⟩, by simp [intOf]; omega⟩
        rw [HB3.out]
        exact HW4.out
    · go_wp2_with fail
      go_returns
      have hmi := HS.out.done (by rw [← HLN.out]; omega)
      refine ⟨rfl, O', v', H', m', nx', HW.out, hmi, ?_⟩
      have := HS.out.ms
      rw [List.length_map, HL.out] at this
      exact this
end Go.Proofs.Ytleapckcihcpaaa
