/-
  The table of distances is filled.
-/
import Derived.Test.YtlgpacpebjechaaGreatDoorBM
import Derived.Deep.OwnRows
namespace Go.Proofs.YtlgpacpebjechaaGreatDoor
open Go.RowKit Go.Deep
attribute [local go_sem] Oper.lit Oper.litS fut_fut fut_drew World.cell?_alloc_some
attribute [local go_sem] World.frozen?_setCell Oper.semAt_some
/-- what lies ready while the table is filled -/
structure OT (a b : ByteArray) (n m N ba bb bt bc g bn bm : Nat) (w0 : World) (L : Nat) (W : World) : Prop where
  b0 : Blk W ba 9 #[.string a]
  b1 : Blk W bb 9 #[.string b]
  b2 : Blk W bt 103 #[.string a, .string b, .slice (some ⟨g, 0, none⟩) N N]
  b3 : Blk W bc 78 #[.pointer (some ⟨bt, 0, none⟩)]
  b4 : Blk W bn 3 #[.int .i64 n]
  b5 : Blk W bm 3 #[.int .i64 m]
  b6 : ∃ cs : Array Value, Blk W g 3 cs ∧ ∀ i j, i ≤ n → j ≤ m → ∃ x : Nat, cs[i * (m + 1) + j]? = some (.int .i64 x) ∧ x ≤ n + m - i - j
  l : ba < L ∧ bb < L ∧ bt < L ∧ bc < L ∧ bn < L ∧ bm < L ∧ g < L
  lo : w0.heap.size ≤ g ∧ w0.heap.size ≤ L
  ne : g ≠ ba ∧ g ≠ bb ∧ g ≠ bt ∧ g ≠ bc ∧ g ≠ bn ∧ g ≠ bm
  f : Fut w0 W
theorem fut_putObj {w0 W : World} (h : Fut w0 W) {l : Nat} (hl : w0.heap.size ≤ l) (o : Obj) : Fut w0 (W.putObj l o) :=
  ⟨h.os, h.tape, h.output, by simp only [World.putObj_size]; exact h.size, fun k hk => (World.putObj_heap_other (by omega)).trans (h.block k hk)⟩
section
variable {a b : ByteArray} {n m N ba bb bt bc g bn bm : Nat} {w0 : World} {L : Nat} {W W' : World}
theorem OT.row (h : OT a b n m N ba bb bt bc g bn bm w0 L W) : RowT W g n m := fun i j hi hj => by
  obtain ⟨cs, h1, h2⟩ := h.b6
  obtain ⟨x, h3, h4⟩ := h2 i j hi hj
  exact ⟨x, h1.cell h3, h4⟩
theorem OT.fut (h : OT a b n m N ba bb bt bc g bn bm w0 L W) (hf : Fut W W') : OT a b n m N ba bb bt bc g bn bm w0 L W' :=
  ⟨h.b0.fut hf, h.b1.fut hf, h.b2.fut hf, h.b3.fut hf, h.b4.fut hf, h.b5.fut hf, by obtain ⟨cs, h1, h2⟩ := h.b6; exact ⟨cs, h1.fut hf, h2⟩, h.l, h.lo, h.ne, h.f.trans hf⟩
theorem OT.put (h : OT a b n m N ba bb bt bc g bn bm w0 L W) {l : Nat} (hl : L ≤ l) (o : Obj) : OT a b n m N ba bb bt bc g bn bm w0 L (W.putObj l o) := by
  obtain ⟨l0, l1, l2, l3, l4, l5, l6⟩ := h.l
  exact ⟨(World.putObj_heap_other (by omega)).trans h.b0, (World.putObj_heap_other (by omega)).trans h.b1, (World.putObj_heap_other (by omega)).trans h.b2, (World.putObj_heap_other (by omega)).trans h.b3, (World.putObj_heap_other (by omega)).trans h.b4, (World.putObj_heap_other (by omega)).trans h.b5, by obtain ⟨cs, h1, h2⟩ := h.b6; exact ⟨cs, (World.putObj_heap_other (by omega)).trans h1, h2⟩, h.l, h.lo, h.ne, fut_putObj h.f (by have := h.lo.2; omega) o⟩
theorem OT.set (h : OT a b n m N ba bb bt bc g bn bm w0 L W) {i j x : Nat} (_hi : i ≤ n) (hj : j ≤ m) (hx : x ≤ n + m - i - j) : OT a b n m N ba bb bt bc g bn bm w0 L (W.setCell ⟨g, i * (m + 1) + j, none⟩ (.int .i64 x)) := by
  obtain ⟨n0, n1, n2, n3, n4, n5⟩ := h.ne
  obtain ⟨cs, h1, h2⟩ := h.b6
  refine ⟨h.b0.setOther (by simp only; omega) _, h.b1.setOther (by simp only; omega) _, h.b2.setOther (by simp only; omega) _, h.b3.setOther (by simp only; omega) _, h.b4.setOther (by simp only; omega) _, h.b5.setOther (by simp only; omega) _, ⟨_, h1.set _ _, fun i' j' hi' hj' => ?_⟩, h.l, h.lo, h.ne, h.f.setCell (by have := h.lo.1; simp only; omega) _⟩
  obtain ⟨y, h3, h4⟩ := h2 i' j' hi' hj'
  by_cases e : i * (m + 1) + j = i' * (m + 1) + j'
  · obtain ⟨rfl, rfl⟩ := idx_inj hj hj' e
    refine ⟨x, ?_, hx⟩
    rw [Array.getElem?_setIfInBounds_self, if_pos (Array.getElem?_eq_some_iff.1 h3).1]
  · exact ⟨y, by rw [Array.getElem?_setIfInBounds_ne e]; exact h3, h4⟩
end
/-- the code ends as codes do that go on -/
def OnlyN (Q : Exit → Act → World → Prop) : Exit → Act → World → Prop
  | .normal, a, w => Q .normal a w
  | _, _, _ => False
theorem onlyN {c : Code} {Q : Exit → Act → World → Prop} {a : Act} {w : World} (h : c.wp Tryz.prog (OnlyN Q) a w) : c.wp Tryz.prog Q a w :=
  (wpIn_wide (n := 0)).1 (wpIn_mono ((wpIn_wide (n := 0)).2 h) (fun e a w h => by
    cases e with
    | normal => exact h
    | ret => exact h.elim
    | exit id => exact h.elim
    | goto t => exact h.elim
    | panic ch => exact h.elim
    | outgrown => exact h.elim))
theorem onlyNIn {F : Fence} {nn : Nat} {c : Code} {Q : Exit → Act → World → Prop} {a : Act} {w : World} (h : c.wpIn F nn Tryz.prog (OnlyN Q) a w) : c.wpIn F nn Tryz.prog Q a w :=
  wpIn_mono h (fun e a w h => by
    cases e with
    | normal => exact h
    | ret => exact h.elim
    | exit id => exact h.elim
    | goto t => exact h.elim
    | panic ch => exact h.elim
    | outgrown => exact h.elim)
theorem onlyN_normal {Q : Exit → Act → World → Prop} {a : Act} {w : World} (h : Q .normal a w) : OnlyN Q .normal a w := h
theorem info_int9 : (Tryz.prog.info? 3).map (fun i => (i.zero, i.size, i.bytes)) = some (some (.int .i64 0), 1, 8) := by kernel_rfl
set_option maxHeartbeats 6400000 in
set_option maxRecDepth 100000 in
theorem of_any (a b : ByteArray) (n m : Nat) (hn : a.size = n) (hm : b.size = m) (hn1 : n ≤ 1000) (hm1 : m ≤ 1000) (w : World) :
    Calls Tryz.prog 24 #[.string a, .string b] w fun e w' => ∃ bt g, e = .returned (.pointer (some ⟨bt, 0, none⟩)) ∧ Blk w' bt 103 #[.string a, .string b, .slice (some ⟨g, 0, none⟩) ((n + 1) * (m + 1)) ((n + 1) * (m + 1))] ∧ RowT w' g n m ∧ Fut w w' := by
  obtain ⟨N, hN⟩ : ∃ N, (n + 1) * (m + 1) = N := ⟨_, rfl⟩
  have hN2 : N ≤ 1001 * 1001 := by rw [← hN]; exact Nat.mul_le_mul (by omega) (by omega)
  have hN0 : 1 ≤ N := by rw [← hN]; exact Nat.mul_pos (by omega) (by omega)
  have HN := Lib.hid hN
  have hmul : ((n : Int) + 1) * ((m : Int) + 1) = (N : Int) := by rw [← hN]; push_cast; rfl
  have hw0 : IntKind.i64.wrap ((n : Int) + 1) = (n : Int) + 1 := by rw [IntKind.wrap_i64]; omega
  have hw1 : IntKind.i64.wrap ((m : Int) + 1) = (m : Int) + 1 := by rw [IntKind.wrap_i64]; omega
  have hw2 : IntKind.i64.wrap (N : Int) = N := wrap_nat (by omega)
  rw [hN]
  clear hN
  refine (callsIn_wide (n := 0)).1 (callsIn_of_wp_marks Tryz.func24 rfl trivial ?_ rfl)
  simp only [Tryz.ntmps24, List.size_toArray, List.length_cons, List.length_nil, Nat.reduceAdd, Nat.reduceSub, Array.replicate_succ,
     Array.replicate_zero, List.push_toArray, List.append_toArray, List.nil_append, List.cons_append]
  refine (wpIn_wide (n := 0)).2 ?_
  go_wp2_with fail
  have B0 : Blk ((w.alloc (.cells #[.string a] 9)).alloc (.cells #[.string b] 9)) w.heap.size 9 #[.string a] := by (repeat (first | exact heap_new' _ _ _ (by first | rfl | (simp only [World.size_alloc])) | refine (blk_alloc_lt _ _ _ (by first | omega | (simp only [World.size_alloc]; omega))).trans ?_))
  have B1 : Blk ((w.alloc (.cells #[.string a] 9)).alloc (.cells #[.string b] 9)) (w.heap.size + 1) 9 #[.string b] := by (repeat (first | exact heap_new' _ _ _ (by first | rfl | (simp only [World.size_alloc])) | refine (blk_alloc_lt _ _ _ (by first | omega | (simp only [World.size_alloc]; omega))).trans ?_))
  have HF2 := Lib.hid (show Fut w ((w.alloc (.cells #[.string a] 9)).alloc (.cells #[.string b] 9)) from ((Fut.refl w).alloc _).alloc _)
  have HZ2 := Lib.hid (show ((w.alloc (.cells #[.string a] 9)).alloc (.cells #[.string b] 9)).heap.size = w.heap.size + 2 by simp only [World.size_alloc])
  generalize ((w.alloc (.cells #[.string a] 9)).alloc (.cells #[.string b] 9)) = w2 at *
  have HB0 := Lib.hid B0
  have HB1 := Lib.hid B1
  have d0 := cell_fut (B0.cell (i := 0) rfl)
  have d1 := cell_fut (B1.cell (i := 0) rfl)
  clear B0 B1
  have hmk := run_make_row' (P := Tryz.prog) 27 3 (.int .i64 0) 8 Tryz.underlying27 info_int9 rfl .i64 .i64 N (by omega) (by omega)
  rename_i Q' K hcont
  have cont : ∀ (g bt bc : Nat) (w1 : World), Hid (Fut w2 w1 ∧ w1.heap[g]? = some (.cells (madeCells #[.int .i64 0] N) 3 (0, 0)) ∧ w1.heap[bt]? = some (.cells #[.string a, .string b, .slice (some ⟨g, 0, none⟩) N N] 103 (0, 0)) ∧ w1.heap[bc]? = some (.cells #[.pointer (some ⟨bt, 0, none⟩)] 78 (0, 0)) ∧ (w2.heap.size ≤ g ∧ w2.heap.size ≤ bt ∧ w2.heap.size ≤ bc) ∧ (g < w1.heap.size ∧ bt < w1.heap.size ∧ bc < w1.heap.size) ∧ (g ≠ bt ∧ g ≠ bc ∧ bt ≠ bc)) → K { tmps := #[.string a, .string b, .pointer (some ⟨w.heap.size, 0, none⟩), .pointer (some ⟨w.heap.size + 1, 0, none⟩), .pointer none, .pointer (some ⟨bc, 0, none⟩), undef, undef, undef, .string a, .string b, .string a, .int .i64 n, .int .i64 ((n : Int) + 1), .string b, .int .i64 m, .int .i64 ((m : Int) + 1), .int .i64 N, .slice (some ⟨g, 0, none⟩) N N, .agg #[.string a, .string b, .slice (some ⟨g, 0, none⟩) N N], .pointer (some ⟨bt, 0, none⟩), undef, undef, undef, undef, undef, undef, undef, undef, undef, undef, undef, undef, undef, undef, undef, undef, undef, undef, undef, undef, undef, undef, undef, undef, undef, undef, undef, undef, undef, undef, undef, undef, undef, undef, undef, undef, undef, undef, undef, undef, undef, undef, undef, undef, undef, undef, undef, undef, undef, undef, undef, undef, undef, undef, undef, undef, undef, undef, undef, undef, undef, undef, undef, undef, undef], defers := [] } w1 := by
    as_aux_lemma =>
      intro g bt bc w1 HF
      refine hcont _ _ ?_
      clear hcont d0 d1 hmk
      obtain ⟨f1, gg, gt, gc, glo, ghi, gne⟩ := HF.out
      have e0 := (HB0.out.fut f1).cell (i := 0) rfl
      have e1 := (HB1.out.fut f1).cell (i := 0) rfl
      go_wp2_with fail
      refine (pairs_any n m w1).mono ?_
      rintro e w3 ⟨rfl, hbn, hbm, hf3, hz3⟩
      clear e0 e1
      have HBN := Lib.hid hbn
      have HBM := Lib.hid hbm
      have HF3 := Lib.hid hf3
      clear hbn hbm hf3
      go_wp2_with fail
      obtain ⟨L, hL⟩ : ∃ L, w3.heap.size = L := ⟨_, rfl⟩
      obtain ⟨bn, hbn⟩ : ∃ q, w1.heap.size = q := ⟨_, rfl⟩
      obtain ⟨ba, hba⟩ : ∃ q, w.heap.size = q := ⟨_, rfl⟩
      have hO : OT a b n m N ba (ba + 1) bt bc g bn (bn + 1) w L w3 := by
        have z2 := HZ2.out
        have z3 := f1.size
        rw [hbn] at hz3
        subst hbn hba
        exact ⟨(HB0.out.fut f1).fut HF3.out, (HB1.out.fut f1).fut HF3.out, Blk.fut gt HF3.out, Blk.fut gc HF3.out, HBN.out, HBM.out, ⟨_, Blk.fut gg HF3.out, fun i j hi hj => ⟨0, by
          have := idx_lt hi hj
          rw [HN.out] at this
          simp [madeCells, this, Nat.mod_one], Nat.zero_le _⟩⟩, by omega, by omega, by omega, (HF2.out.trans f1).trans HF3.out⟩
      rw [hba, hbn]
      have HO := Lib.hid hO
      have HLL := Lib.hid hL
      clear hO hL hba hbn HF HBN HBM HF3 hz3 f1 gg gt gc glo ghi gne HB0 HB1 HZ2 HF2
      refine (wpIn_wide (n := 0)).1 ?_
      refine range_pairs n m bn (bn + 1) hn1 hm1 0 rfl rfl (OT a b n m N ba (ba + 1) bt bc g bn (bn + 1) w L) (fun _ _ h hf => h.fut hf) (fun W l o h hl => h.put (by rw [← HLL.out]; exact hl) o) (fun _ h => h.b4) (fun _ h => h.b5) HO.out ?_ ?_
      · intro l i j W hi hj hOW hl hlW
        clear hOW HO
        gi_wp2_with fail
        refine ⟨Fut.refl _, fun w2 hO2 => ?_⟩
        have HO2 := Lib.hid hO2
        have q0 := hO2.b0.cell (i := 0) rfl
        have q1 := hO2.b1.cell (i := 0) rfl
        have q2 := hO2.b3.cell (i := 0) rfl
        have hat := Lib.hid (fun (w4 : World) (hf : Fut w2 w4) (i' j' : Nat) (hi' : i' ≤ n) (hj' : j' ≤ m) => at_any a b n m bt g i' j' hm hn1 hm1 hi' hj' w4 (by rw [HN.out]; exact hO2.b2.fut hf) (hO2.row.fut hf))
        clear hO2
        by_cases hin : i = n
        · have hin' : n = i := hin.symm
          subst hin'
          have hs1 : IntKind.i64.wrap ((m : Int) - j) = ((m - j : Nat) : Int) := by rw [IntKind.wrap_i64]; omega
          gi_wp2_with fail
          obtain ⟨q, hq⟩ : ∃ q, n * (m + 1) = q := ⟨_, rfl⟩
          have hOv : OT a b n m N ba (ba + 1) bt bc g bn (bn + 1) w L w2 := HO2.out
          have hlt := idx_lt (n := n) (m := m) (i := n) (j := j) (by omega) (by omega)
          rw [HN.out, hq] at hlt
          have hmulq : (n : Int) * ((m : Int) + 1) = (q : Int) := by rw [← hq]; push_cast; rfl
          have hv2 : IntKind.i64.wrap (q : Int) = q := wrap_nat (by omega)
          have hv3 : IntKind.i64.wrap ((q : Int) + j) = (q : Int) + j := by rw [IntKind.wrap_i64]; omega
          have hg1 : (0 ≤ (q : Int) + j) = True := eq_true (by omega)
          have hg2 : ((q : Int) + j < N) = True := eq_true (by omega)
          have hg3 : ((q : Int) + j).toNat = q + j := by omega
          obtain ⟨S, hS⟩ : ∃ S : Nat → Bool, S = fun k => k == g := ⟨_, rfl⟩
          have hne := hOv.ne
          have e0 := cell_futS (S := S) (hOv.b3.cell (i := 0) rfl) (by rw [hS]; exact beq_eq_false_iff_ne.2 (Ne.symm hne.2.2.2.1))
          have e1 := cell_futS (S := S) (hOv.b2.cell (i := 2) rfl) (by rw [hS]; exact beq_eq_false_iff_ne.2 (Ne.symm hne.2.2.1))
          have e2 := cell_futS (S := S) (hOv.b1.cell (i := 0) rfl) (by rw [hS]; exact beq_eq_false_iff_ne.2 (Ne.symm hne.2.1))
          obtain ⟨cs, hcs, hcc⟩ := hOv.b6
          obtain ⟨x0, hx0, _⟩ := hcc n j (by omega) (by omega)
          rw [hq] at hx0
          have z1 : w2.cell? ⟨g, q + j, none⟩ = _ := hcs.cell hx0
          have z2 : w2.frozen? ⟨g, q + j, none⟩ = false := hcs.fz (q + j)
          have HST := Lib.hid ((hOv.set (i := n) (j := j) (x := m - j) (by omega) (by omega) (by omega)).fut (Fut.refl _).drew)
          rw [hq] at HST
          have HOv := Lib.hid hOv
          clear hOv hcs hcc hx0 hne hq hS
          refine onlyNIn ?_
          refine wpIn_region_MG (relS S) o_textdiff_of_13 l 0 (by kernel_rfl) (by kernel_rfl) (by kernel_rfl) (by intro c a d v w h; cases d <;> exact h) (by rintro ⟨a, w, h⟩; exact h) ?_
          unfold o_textdiff_of_13
          iterate 13 (refine wpS_h rfl rfl (fun K hK => ?_); go_simp; refine hK _ _ ?_; clear hK K)
          refine wpG_o rfl rfl (fun K hK => ?_)
          go_simp
          refine hK _ _ (.inl (by kernel_rfl)) ?_
          clear hK K
          refine wpG_nil ?_
          gi_wp2_with fail
          have hFS := ((FutS.of (S := fun k => k == g) (Fut.refl w2)).trans (futS_set w2 ⟨g, q + j, none⟩ (.int .i64 ((m - j : Nat) : Int)) (by simp))).drew
          exact ⟨HST.out, hFS.size, fun k hk hk2 => hFS.block k hk2 (beq_eq_false_iff_ne.2 (by have := HOv.out.l; rw [HLL.out] at hk; omega))⟩
        · have hin1 : ((i : Int) = n) = False := eq_false (by omega)
          have hin2 : (i = n) = False := eq_false hin
          have hin3 : ((i : Int) == n) = false := beq_eq_false_iff_ne.2 (by omega)
          by_cases hjm : j = m
          · have hjm' : m = j := hjm.symm
            subst hjm'
            have hs1 : IntKind.i64.wrap ((n : Int) - i) = ((n - i : Nat) : Int) := by rw [IntKind.wrap_i64]; omega
            gi_wp2_with fail
            obtain ⟨q, hq⟩ : ∃ q, i * (m + 1) = q := ⟨_, rfl⟩
            have hOv : OT a b n m N ba (ba + 1) bt bc g bn (bn + 1) w L w2 := HO2.out
            have hlt := idx_lt (n := n) (m := m) (i := i) (j := m) (by omega) (by omega)
            rw [HN.out, hq] at hlt
            have hmulq : (i : Int) * ((m : Int) + 1) = (q : Int) := by rw [← hq]; push_cast; rfl
            have hv2 : IntKind.i64.wrap (q : Int) = q := wrap_nat (by omega)
            have hv3 : IntKind.i64.wrap ((q : Int) + m) = (q : Int) + m := by rw [IntKind.wrap_i64]; omega
            have hg1 : (0 ≤ (q : Int) + m) = True := eq_true (by omega)
            have hg2 : ((q : Int) + m < N) = True := eq_true (by omega)
            have hg3 : ((q : Int) + m).toNat = q + m := by omega
            obtain ⟨S, hS⟩ : ∃ S : Nat → Bool, S = fun k => k == g := ⟨_, rfl⟩
            have hne := hOv.ne
            have e0 := cell_futS (S := S) (hOv.b3.cell (i := 0) rfl) (by rw [hS]; exact beq_eq_false_iff_ne.2 (Ne.symm hne.2.2.2.1))
            have e1 := cell_futS (S := S) (hOv.b2.cell (i := 2) rfl) (by rw [hS]; exact beq_eq_false_iff_ne.2 (Ne.symm hne.2.2.1))
            have e2 := cell_futS (S := S) (hOv.b1.cell (i := 0) rfl) (by rw [hS]; exact beq_eq_false_iff_ne.2 (Ne.symm hne.2.1))
            obtain ⟨cs, hcs, hcc⟩ := hOv.b6
            obtain ⟨x0, hx0, _⟩ := hcc i m (by omega) (by omega)
            rw [hq] at hx0
            have z1 : w2.cell? ⟨g, q + m, none⟩ = _ := hcs.cell hx0
            have z2 : w2.frozen? ⟨g, q + m, none⟩ = false := hcs.fz (q + m)
            have HST := Lib.hid ((hOv.set (i := i) (j := m) (x := n - i) (by omega) (by omega) (by omega)).fut (Fut.refl _).drew)
            rw [hq] at HST
            have HOv := Lib.hid hOv
            clear hOv hcs hcc hx0 hne hq hS
            refine onlyNIn ?_
            refine wpIn_region_MG (relS S) o_textdiff_of_13 l 0 (by kernel_rfl) (by kernel_rfl) (by kernel_rfl) (by intro c a d v w h; cases d <;> exact h) (by rintro ⟨a, w, h⟩; exact h) ?_
            unfold o_textdiff_of_13
            iterate 13 (refine wpS_h rfl rfl (fun K hK => ?_); go_simp; refine hK _ _ ?_; clear hK K)
            refine wpG_o rfl rfl (fun K hK => ?_)
            go_simp
            refine hK _ _ (.inl (by kernel_rfl)) ?_
            clear hK K
            refine wpG_nil ?_
            gi_wp2_with fail
            have hFS := ((FutS.of (S := fun k => k == g) (Fut.refl w2)).trans (futS_set w2 ⟨g, q + m, none⟩ (.int .i64 ((n - i : Nat) : Int)) (by simp))).drew
            exact ⟨HST.out, hFS.size, fun k hk hk2 => hFS.block k hk2 (beq_eq_false_iff_ne.2 (by have := HOv.out.l; rw [HLL.out] at hk; omega))⟩
          · have hjm1 : ((j : Int) = m) = False := eq_false (by omega)
            have hjm2 : (j = m) = False := eq_false hjm
            have hjm3 : ((j : Int) == m) = false := beq_eq_false_iff_ne.2 (by omega)
            have hli : ((i : Int) < n) = True := eq_true (by omega)
            have hlj : ((j : Int) < m) = True := eq_true (by omega)
            have hgi : (0 ≤ (i : Int)) = True := eq_true (by omega)
            have hgj : (0 ≤ (j : Int)) = True := eq_true (by omega)
            have f0 := cell_futS (S := fun _ => false) q0 rfl
            have f1 := cell_futS (S := fun _ => false) q1 rfl
            gi_wp2_with fail
            refine onlyNIn ?_
            refine wpIn_region_MG (relS (fun _ => false)) o_textdiff_of_11 l 0 (by kernel_rfl) (by kernel_rfl) (by kernel_rfl) (by intro c a d v w h; cases d <;> exact h) (by rintro ⟨a, w, h⟩; exact h) ?_
            unfold o_textdiff_of_11
            iterate 8 (refine wpS_h rfl rfl (fun K hK => ?_); go_simp; refine hK _ _ ?_; clear hK K)
            refine wpG_nil (onlyN_normal ?_)
            have hc1 := hat.out w2.drew (Fut.refl w2).drew (i + 1) (j + 1) (by omega) (by omega)
            push_cast at hc1
            gi_wp2_with fail
            · refine ⟨trivial, rfl, (CallsIn.inRound l (callsIn_wide.2 hc1)).mono ?_⟩
              rintro e w4 ⟨x, rfl, hx, hf4⟩
              have HF4 := Lib.hid ((Fut.refl w2).drew.trans hf4)
              clear hf4 hc1 f0 f1 q0 q1 q2
              gi_wp2_with fail
              obtain ⟨q, hq⟩ : ∃ q, i * (m + 1) = q := ⟨_, rfl⟩
              have hOv : OT a b n m N ba (ba + 1) bt bc g bn (bn + 1) w L w4 := HO2.out.fut HF4.out
              have hlt := idx_lt (n := n) (m := m) (i := i) (j := j) (by omega) (by omega)
              rw [HN.out, hq] at hlt
              have hmulq : (i : Int) * ((m : Int) + 1) = (q : Int) := by rw [← hq]; push_cast; rfl
              have hv2 : IntKind.i64.wrap (q : Int) = q := wrap_nat (by omega)
              have hv3 : IntKind.i64.wrap ((q : Int) + j) = (q : Int) + j := by rw [IntKind.wrap_i64]; omega
              have hg1 : (0 ≤ (q : Int) + j) = True := eq_true (by omega)
              have hg2 : ((q : Int) + j < N) = True := eq_true (by omega)
              have hg3 : ((q : Int) + j).toNat = q + j := by omega
              obtain ⟨S, hS⟩ : ∃ S : Nat → Bool, S = fun k => k == g := ⟨_, rfl⟩
              have hne := hOv.ne
              have e0 := cell_futS (S := S) (hOv.b3.cell (i := 0) rfl) (by rw [hS]; exact beq_eq_false_iff_ne.2 (Ne.symm hne.2.2.2.1))
              have e1 := cell_futS (S := S) (hOv.b2.cell (i := 2) rfl) (by rw [hS]; exact beq_eq_false_iff_ne.2 (Ne.symm hne.2.2.1))
              have e2 := cell_futS (S := S) (hOv.b1.cell (i := 0) rfl) (by rw [hS]; exact beq_eq_false_iff_ne.2 (Ne.symm hne.2.1))
              obtain ⟨cs, hcs, hcc⟩ := hOv.b6
              obtain ⟨x0, hx0, _⟩ := hcc i j (by omega) (by omega)
              rw [hq] at hx0
              have z1 : w4.cell? ⟨g, q + j, none⟩ = _ := hcs.cell hx0
              have z2 : w4.frozen? ⟨g, q + j, none⟩ = false := hcs.fz (q + j)
              have HST := Lib.hid ((hOv.set (i := i) (j := j) (x := x) (by omega) (by omega) (by omega)).fut (Fut.refl _).drew)
              rw [hq] at HST
              have HOv := Lib.hid hOv
              clear hOv hcs hcc hx0 hne hq hS
              refine onlyNIn ?_
              refine wpIn_region_MG (relS S) o_textdiff_of_13 l 0 (by kernel_rfl) (by kernel_rfl) (by kernel_rfl) (by intro c a d v w h; cases d <;> exact h) (by rintro ⟨a, w, h⟩; exact h) ?_
              unfold o_textdiff_of_13
              iterate 13 (refine wpS_h rfl rfl (fun K hK => ?_); go_simp; refine hK _ _ ?_; clear hK K)
              refine wpG_o rfl rfl (fun K hK => ?_)
              go_simp
              refine hK _ _ (.inl (by kernel_rfl)) ?_
              clear hK K
              refine wpG_nil ?_
              gi_wp2_with fail
              have hFS := ((FutS.of (S := fun k => k == g) HF4.out).trans (futS_set w4 ⟨g, q + j, none⟩ (.int .i64 ((x : Nat) : Int)) (by simp))).drew
              exact ⟨HST.out, hFS.size, fun k hk hk2 => hFS.block k hk2 (beq_eq_false_iff_ne.2 (by have := HOv.out.l; rw [HLL.out] at hk; omega))⟩
            · have hwi : IntKind.i64.wrap ((i : Int) + 1) = (i : Int) + 1 := by rw [IntKind.wrap_i64]; omega
              have hwj : IntKind.i64.wrap ((j : Int) + 1) = (j : Int) + 1 := by rw [IntKind.wrap_i64]; omega
              have f2 : ∀ f d os, (futS w2.drew (fun _ => false) f d os).cell? ⟨bc, 0, none⟩ = some (.pointer (some ⟨bt, 0, none⟩)) := cell_futS (b := w2.drew) q2 rfl
              have hc2 := Lib.hid (fun (w4 : World) (hf : Fut w2 w4) => hat.out w4 hf (i + 1) j (by omega) (by omega))
              have hc3 := Lib.hid (fun (w4 : World) (hf : Fut w2 w4) => hat.out w4 hf i (j + 1) (by omega) (by omega))
              push_cast at hc2 hc3
              refine onlyNIn ?_
              refine wpIn_region_MG (relS (fun _ => false)) o_textdiff_of_6 l 0 (by kernel_rfl) (by kernel_rfl) (by kernel_rfl) (by intro c a d v w h; cases d <;> exact h) (by rintro ⟨a, w, h⟩; exact h) ?_
              unfold o_textdiff_of_6
              iterate 8 (refine wpS_h rfl rfl (fun K hK => ?_); go_simp; refine hK _ _ ?_; clear hK K)
              refine wpG_o rfl rfl (fun K hK => ?_)
              go_simp
              go_at_call 25
              refine (hc2.out w2.drew.drew (Fut.refl w2).drew.drew).mono ?_
              rintro e w4 ⟨x, rfl, hx, hf4⟩
              have HF4 := Lib.hid ((Fut.refl w2).drew.drew.trans hf4)
              refine hK _ _ (.inr (FutS.of hf4)) ?_
              clear hK K hf4
              refine wpG_o rfl rfl (fun K hK => ?_)
              go_simp
              go_at_call 25
              refine (hc3.out w4 HF4.out).mono ?_
              rintro e w5 ⟨y, rfl, hy, hf5⟩
              have HF5 := Lib.hid (HF4.out.trans hf5)
              refine hK _ _ (.inr (FutS.of hf5)) ?_
              clear hK K hf5 hc1 hc2 hc3
              rcases Nat.lt_trichotomy x y with hxy | hxy | hxy
              · have hm1 : min (x : Int) y = x := by omega
                have hm2 : ((x : Int) < y) = True := eq_true (by omega)
                have hm3 : ((y : Int) < x) = False := eq_false (by omega)
                have hm4 : ((x : Int) ≤ y) = True := eq_true (by omega)
                have hm5 : ((y : Int) ≤ x) = False := eq_false (by omega)
                have hwv : IntKind.i64.wrap (1 + (x : Int)) = ((1 + x : Nat) : Int) := by rw [IntKind.wrap_i64]; omega
                iterate 3 (refine wpS_h rfl rfl (fun K hK => ?_); go_simp; refine hK _ _ ?_; clear hK K)
                refine wpG_nil (onlyN_normal ?_)
                clear f0 f1 f2 q0 q1 q2
                gi_wp2_with fail
                obtain ⟨q, hq⟩ : ∃ q, i * (m + 1) = q := ⟨_, rfl⟩
                have hOv : OT a b n m N ba (ba + 1) bt bc g bn (bn + 1) w L w5 := HO2.out.fut HF5.out
                have hlt := idx_lt (n := n) (m := m) (i := i) (j := j) (by omega) (by omega)
                rw [HN.out, hq] at hlt
                have hmulq : (i : Int) * ((m : Int) + 1) = (q : Int) := by rw [← hq]; push_cast; rfl
                have hv2 : IntKind.i64.wrap (q : Int) = q := wrap_nat (by omega)
                have hv3 : IntKind.i64.wrap ((q : Int) + j) = (q : Int) + j := by rw [IntKind.wrap_i64]; omega
                have hg1 : (0 ≤ (q : Int) + j) = True := eq_true (by omega)
                have hg2 : ((q : Int) + j < N) = True := eq_true (by omega)
                have hg3 : ((q : Int) + j).toNat = q + j := by omega
                obtain ⟨S, hS⟩ : ∃ S : Nat → Bool, S = fun k => k == g := ⟨_, rfl⟩
                have hne := hOv.ne
                have e0 := cell_futS (S := S) (hOv.b3.cell (i := 0) rfl) (by rw [hS]; exact beq_eq_false_iff_ne.2 (Ne.symm hne.2.2.2.1))
                have e1 := cell_futS (S := S) (hOv.b2.cell (i := 2) rfl) (by rw [hS]; exact beq_eq_false_iff_ne.2 (Ne.symm hne.2.2.1))
                have e2 := cell_futS (S := S) (hOv.b1.cell (i := 0) rfl) (by rw [hS]; exact beq_eq_false_iff_ne.2 (Ne.symm hne.2.1))
                obtain ⟨cs, hcs, hcc⟩ := hOv.b6
                obtain ⟨x0, hx0, _⟩ := hcc i j (by omega) (by omega)
                rw [hq] at hx0
                have z1 : w5.cell? ⟨g, q + j, none⟩ = _ := hcs.cell hx0
                have z2 : w5.frozen? ⟨g, q + j, none⟩ = false := hcs.fz (q + j)
                have HST := Lib.hid ((hOv.set (i := i) (j := j) (x := 1 + x) (by omega) (by omega) (by omega)).fut (Fut.refl _).drew)
                rw [hq] at HST
                have HOv := Lib.hid hOv
                clear hOv hcs hcc hx0 hne hq hS
                refine onlyNIn ?_
                refine wpIn_region_MG (relS S) o_textdiff_of_13 l 0 (by kernel_rfl) (by kernel_rfl) (by kernel_rfl) (by intro c a d v w h; cases d <;> exact h) (by rintro ⟨a, w, h⟩; exact h) ?_
                unfold o_textdiff_of_13
                iterate 13 (refine wpS_h rfl rfl (fun K hK => ?_); go_simp; refine hK _ _ ?_; clear hK K)
                refine wpG_o rfl rfl (fun K hK => ?_)
                go_simp
                refine hK _ _ (.inl (by kernel_rfl)) ?_
                clear hK K
                refine wpG_nil ?_
                gi_wp2_with fail
                have hFS := ((FutS.of (S := fun k => k == g) HF5.out).trans (futS_set w5 ⟨g, q + j, none⟩ (.int .i64 ((1 + x : Nat) : Int)) (by simp))).drew
                exact ⟨HST.out, hFS.size, fun k hk hk2 => hFS.block k hk2 (beq_eq_false_iff_ne.2 (by have := HOv.out.l; rw [HLL.out] at hk; omega))⟩
              · subst hxy
                have hwv : IntKind.i64.wrap (1 + (x : Int)) = ((1 + x : Nat) : Int) := by rw [IntKind.wrap_i64]; omega
                iterate 3 (refine wpS_h rfl rfl (fun K hK => ?_); go_simp; refine hK _ _ ?_; clear hK K)
                refine wpG_nil (onlyN_normal ?_)
                clear f0 f1 f2 q0 q1 q2
                gi_wp2_with fail
                obtain ⟨q, hq⟩ : ∃ q, i * (m + 1) = q := ⟨_, rfl⟩
                have hOv : OT a b n m N ba (ba + 1) bt bc g bn (bn + 1) w L w5 := HO2.out.fut HF5.out
                have hlt := idx_lt (n := n) (m := m) (i := i) (j := j) (by omega) (by omega)
                rw [HN.out, hq] at hlt
                have hmulq : (i : Int) * ((m : Int) + 1) = (q : Int) := by rw [← hq]; push_cast; rfl
                have hv2 : IntKind.i64.wrap (q : Int) = q := wrap_nat (by omega)
                have hv3 : IntKind.i64.wrap ((q : Int) + j) = (q : Int) + j := by rw [IntKind.wrap_i64]; omega
                have hg1 : (0 ≤ (q : Int) + j) = True := eq_true (by omega)
                have hg2 : ((q : Int) + j < N) = True := eq_true (by omega)
                have hg3 : ((q : Int) + j).toNat = q + j := by omega
                obtain ⟨S, hS⟩ : ∃ S : Nat → Bool, S = fun k => k == g := ⟨_, rfl⟩
                have hne := hOv.ne
                have e0 := cell_futS (S := S) (hOv.b3.cell (i := 0) rfl) (by rw [hS]; exact beq_eq_false_iff_ne.2 (Ne.symm hne.2.2.2.1))
                have e1 := cell_futS (S := S) (hOv.b2.cell (i := 2) rfl) (by rw [hS]; exact beq_eq_false_iff_ne.2 (Ne.symm hne.2.2.1))
                have e2 := cell_futS (S := S) (hOv.b1.cell (i := 0) rfl) (by rw [hS]; exact beq_eq_false_iff_ne.2 (Ne.symm hne.2.1))
                obtain ⟨cs, hcs, hcc⟩ := hOv.b6
                obtain ⟨x0, hx0, _⟩ := hcc i j (by omega) (by omega)
                rw [hq] at hx0
                have z1 : w5.cell? ⟨g, q + j, none⟩ = _ := hcs.cell hx0
                have z2 : w5.frozen? ⟨g, q + j, none⟩ = false := hcs.fz (q + j)
                have HST := Lib.hid ((hOv.set (i := i) (j := j) (x := 1 + x) (by omega) (by omega) (by omega)).fut (Fut.refl _).drew)
                rw [hq] at HST
                have HOv := Lib.hid hOv
                clear hOv hcs hcc hx0 hne hq hS
                refine onlyNIn ?_
                refine wpIn_region_MG (relS S) o_textdiff_of_13 l 0 (by kernel_rfl) (by kernel_rfl) (by kernel_rfl) (by intro c a d v w h; cases d <;> exact h) (by rintro ⟨a, w, h⟩; exact h) ?_
                unfold o_textdiff_of_13
                iterate 13 (refine wpS_h rfl rfl (fun K hK => ?_); go_simp; refine hK _ _ ?_; clear hK K)
                refine wpG_o rfl rfl (fun K hK => ?_)
                go_simp
                refine hK _ _ (.inl (by kernel_rfl)) ?_
                clear hK K
                refine wpG_nil ?_
                gi_wp2_with fail
                have hFS := ((FutS.of (S := fun k => k == g) HF5.out).trans (futS_set w5 ⟨g, q + j, none⟩ (.int .i64 ((1 + x : Nat) : Int)) (by simp))).drew
                exact ⟨HST.out, hFS.size, fun k hk hk2 => hFS.block k hk2 (beq_eq_false_iff_ne.2 (by have := HOv.out.l; rw [HLL.out] at hk; omega))⟩
              · have hm1 : min (x : Int) y = y := by omega
                have hm2 : ((y : Int) < x) = True := eq_true (by omega)
                have hm3 : ((x : Int) < y) = False := eq_false (by omega)
                have hm4 : ((y : Int) ≤ x) = True := eq_true (by omega)
                have hm5 : ((x : Int) ≤ y) = False := eq_false (by omega)
                have hwv : IntKind.i64.wrap (1 + (y : Int)) = ((1 + y : Nat) : Int) := by rw [IntKind.wrap_i64]; omega
                iterate 3 (refine wpS_h rfl rfl (fun K hK => ?_); go_simp; refine hK _ _ ?_; clear hK K)
                refine wpG_nil (onlyN_normal ?_)
                clear f0 f1 f2 q0 q1 q2
                gi_wp2_with fail
                obtain ⟨q, hq⟩ : ∃ q, i * (m + 1) = q := ⟨_, rfl⟩
                have hOv : OT a b n m N ba (ba + 1) bt bc g bn (bn + 1) w L w5 := HO2.out.fut HF5.out
                have hlt := idx_lt (n := n) (m := m) (i := i) (j := j) (by omega) (by omega)
                rw [HN.out, hq] at hlt
                have hmulq : (i : Int) * ((m : Int) + 1) = (q : Int) := by rw [← hq]; push_cast; rfl
                have hv2 : IntKind.i64.wrap (q : Int) = q := wrap_nat (by omega)
                have hv3 : IntKind.i64.wrap ((q : Int) + j) = (q : Int) + j := by rw [IntKind.wrap_i64]; omega
                have hg1 : (0 ≤ (q : Int) + j) = True := eq_true (by omega)
                have hg2 : ((q : Int) + j < N) = True := eq_true (by omega)
                have hg3 : ((q : Int) + j).toNat = q + j := by omega
                obtain ⟨S, hS⟩ : ∃ S : Nat → Bool, S = fun k => k == g := ⟨_, rfl⟩
                have hne := hOv.ne
                have e0 := cell_futS (S := S) (hOv.b3.cell (i := 0) rfl) (by rw [hS]; exact beq_eq_false_iff_ne.2 (Ne.symm hne.2.2.2.1))
                have e1 := cell_futS (S := S) (hOv.b2.cell (i := 2) rfl) (by rw [hS]; exact beq_eq_false_iff_ne.2 (Ne.symm hne.2.2.1))
                have e2 := cell_futS (S := S) (hOv.b1.cell (i := 0) rfl) (by rw [hS]; exact beq_eq_false_iff_ne.2 (Ne.symm hne.2.1))
                obtain ⟨cs, hcs, hcc⟩ := hOv.b6
                obtain ⟨x0, hx0, _⟩ := hcc i j (by omega) (by omega)
                rw [hq] at hx0
                have z1 : w5.cell? ⟨g, q + j, none⟩ = _ := hcs.cell hx0
                have z2 : w5.frozen? ⟨g, q + j, none⟩ = false := hcs.fz (q + j)
                have HST := Lib.hid ((hOv.set (i := i) (j := j) (x := 1 + y) (by omega) (by omega) (by omega)).fut (Fut.refl _).drew)
                rw [hq] at HST
                have HOv := Lib.hid hOv
                clear hOv hcs hcc hx0 hne hq hS
                refine onlyNIn ?_
                refine wpIn_region_MG (relS S) o_textdiff_of_13 l 0 (by kernel_rfl) (by kernel_rfl) (by kernel_rfl) (by intro c a d v w h; cases d <;> exact h) (by rintro ⟨a, w, h⟩; exact h) ?_
                unfold o_textdiff_of_13
                iterate 13 (refine wpS_h rfl rfl (fun K hK => ?_); go_simp; refine hK _ _ ?_; clear hK K)
                refine wpG_o rfl rfl (fun K hK => ?_)
                go_simp
                refine hK _ _ (.inl (by kernel_rfl)) ?_
                clear hK K
                refine wpG_nil ?_
                gi_wp2_with fail
                have hFS := ((FutS.of (S := fun k => k == g) HF5.out).trans (futS_set w5 ⟨g, q + j, none⟩ (.int .i64 ((1 + y : Nat) : Int)) (by simp))).drew
                exact ⟨HST.out, hFS.size, fun k hk hk2 => hFS.block k hk2 (beq_eq_false_iff_ne.2 (by have := HOv.out.l; rw [HLL.out] at hk; omega))⟩
      · intro D W hOW hD hDW
        have hO4 := hOW.put (show L ≤ D from by rw [← HLL.out]; exact hD) (.deferred none)
        have q0 := hOW.b3.cell (i := 0) rfl
        have HO4 := Lib.hid hO4
        have HDD := Lib.hid hDW
        clear hOW hO4 hDW HO
        go_wp2_with fail
        refine ⟨by simp, .inl ⟨_, _, rfl, run_takeDeferred HDD.out, ?_⟩⟩
        exact ⟨_, results_tmp rfl _ _ _, bt, g, rfl, HO4.out.b2, HO4.out.row, HO4.out.f⟩
  clear hcont
  refine onlyN ?_
  refine wp_region_M o_textdiff_of_1 (by kernel_rfl) (by kernel_rfl) (by intro c a d v w h; cases d <;> exact h) ?_; unfold o_textdiff_of_1
  iterate 9 (refine wpF_h rfl rfl (fun K hK => ?_); go_simp; refine hK _ _ ?_; clear hK K)
  refine wpF_two rfl rfl (fun K hK => ?_) (fun K hK => ?_)
  · go_simp
    refine hK _ _ (.inr ((Fut.refl _).alloc _)) ?_
    clear hK K
    (refine wpF_h rfl rfl (fun K hK => ?_); go_simp; refine hK _ _ ?_; clear hK K)
    refine wpF_two rfl rfl (fun K hK => ?_) (fun K hK => ?_)
    · go_simp
      refine hK _ _ (.inr ((Fut.refl _).alloc _)) ?_
      clear hK K
      (refine wpF_o rfl rfl (fun K hK => ?_); go_simp; refine hK _ _ (.inr ((Fut.refl _).alloc _)) ?_; clear hK K)
      refine wpF_o rfl rfl (fun K hK => ?_)
      go_simp
      refine hK _ _ (.inl (by kernel_rfl)) ?_
      clear hK K
      refine wpF_nil ?_
      refine cont _ _ _ _ (Lib.hid ⟨((((Fut.refl w2).alloc _).alloc _).alloc _).drew, ?_, ?_, ?_, ?_, ?_, ?_⟩)
      all_goals try simp only [World.size_drew, World.size_alloc]
      all_goals first | omega | (show Blk _ _ _ _; (repeat (first | exact heap_new' _ _ _ (by first | rfl | (simp only [World.size_alloc])) | refine (blk_alloc_lt _ _ _ (by first | omega | (simp only [World.size_alloc]; omega))).trans ?_)))
    · go_simp
      refine hK _ _ (.inr ((Fut.refl _).alloc _)) ?_
      clear hK K
      (refine wpF_o rfl rfl (fun K hK => ?_); go_simp; refine hK _ _ (.inr ((Fut.refl _).alloc _)) ?_; clear hK K)
      refine wpF_o rfl rfl (fun K hK => ?_)
      go_simp
      refine hK _ _ (.inl (by kernel_rfl)) ?_
      clear hK K
      refine wpF_nil ?_
      refine cont _ _ _ _ (Lib.hid ⟨((((Fut.refl w2).alloc _).alloc _).alloc _).drew, ?_, ?_, ?_, ?_, ?_, ?_⟩)
      all_goals try simp only [World.size_drew, World.size_alloc]
      all_goals first | omega | (show Blk _ _ _ _; (repeat (first | exact heap_new' _ _ _ (by first | rfl | (simp only [World.size_alloc])) | refine (blk_alloc_lt _ _ _ (by first | omega | (simp only [World.size_alloc]; omega))).trans ?_)))
  · go_simp
    refine hK _ _ (.inr ((Fut.refl _).alloc _)) ?_
    clear hK K
    (refine wpF_o rfl rfl (fun K hK => ?_); go_simp; refine hK _ _ (.inr ((Fut.refl _).alloc _)) ?_; clear hK K)
    (refine wpF_h rfl rfl (fun K hK => ?_); go_simp; refine hK _ _ ?_; clear hK K)
    (refine wpF_o rfl rfl (fun K hK => ?_); go_simp; refine hK _ _ (.inr ((Fut.refl _).alloc _)) ?_; clear hK K)
    refine wpF_o rfl rfl (fun K hK => ?_)
    go_simp
    refine hK _ _ (.inl (by kernel_rfl)) ?_
    clear hK K
    refine wpF_nil ?_
    refine cont _ _ _ _ (Lib.hid ⟨((((Fut.refl w2).alloc _).alloc _).alloc _).drew, ?_, ?_, ?_, ?_, ?_, ?_⟩)
    all_goals try simp only [World.size_drew, World.size_alloc]
    all_goals first | omega | (show Blk _ _ _ _; (repeat (first | exact heap_new' _ _ _ (by first | rfl | (simp only [World.size_alloc])) | refine (blk_alloc_lt _ _ _ (by first | omega | (simp only [World.size_alloc]; omega))).trans ?_)))
end Go.Proofs.YtlgpacpebjechaaGreatDoor
