/-
  Replace, as the reference has it.
-/
import Derived.Test.YtagmpbgidooibaaC19
import Derived.Test.YtagmpbgidooibaaC8
namespace Go.Proofs.Ytagmpbgidooibaa
open Go.RowKit Go.Deep
attribute [local go_sem] Oper.lit Oper.litS fut_fut fut_drew World.cell?_alloc_some
theorem rrep_res : Try.f20.results = #[.cell 6 25, .tmp 7] := by kernel_rfl
theorem wpo_append_cols {w : World} {o : Oper} {a : Act} {K : Act → World → Prop} {Q : Exit → Act → World → Prop} (s x : Operand) (ho : o.op = .call { callee := .builtin .append, args := #[s, x], argTypes := #[22, 22] })
    (base : Nat) (v : Value) (k : Nat) (xs : List CC) (hs : a.eval s = v) (hown : w.ownsRow base 51 3 v k (xs.flatMap encC)) (A : Option Addr) (n c : Nat) (l : List CC) (hx : a.eval x = .slice A n c) (hl : l.length = n) (hn : n ≤ 1000) (hkn : k ≤ 100000) (hnl : A = none → n = 0 ∧ c = 0) (hR : RdS w A 3 encC l) (hb : base ≤ w.heap.size)
    (h : ∀ v' w', w'.ownsRow base 51 3 v' (k + n) ((xs ++ l).flatMap encC) → w.grownBy w' v.ownBlock → K (a.put o.dst v') w') : o.wp Try.prog a w K Q := by
  obtain ⟨ci, ca, cz0, cz1, cz2⟩ := info_parts info_col
  cases A with
  | none =>
    obtain ⟨rfl, rfl⟩ := hnl rfl
    have : l = [] := List.length_eq_zero_iff.1 hl
    subst this
    have hrun := run_append_owned_none (P := Try.prog) (w := w) base 22 o.type 51 ci 3 Try.underlying22 ca v k _ hown
    unfold Oper.wp
    simp [execOp, ho, resolve, invoke, builtin, hs, hx, hrun, Result.andThen]
    exact h v w (by simpa using hown) ⟨rfl, rfl, rfl, Nat.le_refl _, fun _ _ _ => rfl⟩
  | some ad =>
    refine wp_append_own _ s x 22 ho base 51 ci _ 3 40 Try.underlying22 ca cz0 cz1 cz2 rfl (by decide) v k (xs.flatMap encC) hs hown ad n c (l.flatMap encC) hx (by rw [flat_len encC 3 encC_len, hl]) ?_ ?_ (by unfold maxLen; omega) (by omega) hb ?_
    · intro j u hu
      obtain ⟨i, j2, e, rfl, hj2, hi, hu2⟩ := flat_inv encC 3 encC_len l j u hu
      obtain ⟨b, o, hA, hc⟩ := hR i e hi
      injection hA with hA
      subst hA
      have e2 : (⟨b, o, none⟩ : Addr).add (i * 3 + j2) = ⟨b, o + i * 3 + j2, none⟩ := by unfold Addr.add; split <;> simp_all [Nat.add_assoc]
      rw [e2]
      exact hc j2 u hj2 hu2
    · intro u hu
      obtain ⟨e, _, he⟩ := List.mem_flatMap.1 hu
      simp only [encC, List.mem_cons, List.not_mem_nil, or_false] at he
      rcases he with rfl | rfl | rfl <;> rfl
    · intro v' w' h1 h2 _
      refine h v' w' ?_ h2
      rw [List.flatMap_append]
      exact h1
theorem futS_own {S : Nat → Bool} {w w' : World} {base : Nat} {t : TypeId} {sz n : Nat} {v : Value} {xs : List Value} (hown : w.ownsRow base t sz v n xs) (hg : w.grownBy w' v.ownBlock) (hS : ∀ q, base ≤ q → S q = true) : FutS S w w' :=
  ⟨hg.os, hg.tape, hg.output, hg.size, fun q hq hs => hg.block q hq (fun e => by
    rw [hS q (World.ownsRow.lt hown q e.symm).1] at hs
    cases hs)⟩
theorem made_cols (w : World) : (w.alloc (.cells #[] 51)).ownsRow w.heap.size 51 3 (.slice (some ⟨w.heap.size, 0, none⟩) 0 0) 0 (([] : List CC).flatMap encC) := World.ownsRow_made w #[] 0 (Nat.le_refl _) (Nat.zero_le _) (by simp)
set_option maxHeartbeats 12800000 in
set_option maxRecDepth 4000 in
theorem rReplace_any (A : Option Addr) (n c : Nat) (B : Option Addr) (m d : Nat) (s : Int) (fr od nw : Int) (L : Option Addr) (ln lc : Nat) (cs ls : List CC) (ins : List Int) (w : World)
    (hl : cs.length = n) (hn : n ≤ 1000) (hil : ins.length = m) (hm : m ≤ 1000) (hll : ls.length = ln) (hln : ln ≤ 1000) (hnc : n ≤ c) (hc : c ≤ maxLen) (hA : (n = 0 ∧ c = 0) ∨ ∃ b o, A = some ⟨b, o, none⟩) (hL : L = none → ln = 0 ∧ lc = 0)
    (rA : RdC w A cs) (rB : Rd1 w B (.int .i64 ·) ins) (rL : RdC w L ls) :
    Calls Try.prog 20 #[iv A n c B m d s, .agg #[.int .i64 fr, .int .i64 od, .int .i64 nw], .slice L ln lc] w fun e w' => RepR w' e B m d s (repE cs ins s fr od nw ls) (repC cs ls fr.toNat od.toNat) ∧ Below w.heap.size w w' := by
  have k1 : n ≤ 9223372036854775807 := by omega
  have k2 : m ≤ 9223372036854775807 := by omega
  have k3 : ln ≤ 9223372036854775807 := by omega
  have k4 : c ≤ 9223372036854775807 := hc
  have HL := Lib.hid hl
  have HIL := Lib.hid hil
  have HLL := Lib.hid hll
  have HAN := Lib.hid hA
  have HLN := Lib.hid hL
  have RA := Lib.hid rA
  have RB := Lib.hid rB
  have RL := Lib.hid rL
  clear hl hil hll hA hL rA rB rL hc
  have HWW := Lib.hid (show Fut w (((w.alloc (.cells #[.slice A n c, .slice B m d, .int .i64 s] 25)).alloc (.cells #[.int .i64 fr, .int .i64 od, .int .i64 nw] 45)).alloc (.cells #[.slice none 0 0, .slice none 0 0, .int .i64 0] 25)) from (((Fut.refl w).alloc _).alloc _).alloc _)
  have HCI := Lib.hid (show CelI (((w.alloc (.cells #[.slice A n c, .slice B m d, .int .i64 s] 25)).alloc (.cells #[.int .i64 fr, .int .i64 od, .int .i64 nw] 45)).alloc (.cells #[.slice none 0 0, .slice none 0 0, .int .i64 0] 25)) (w.heap.size + 1 + 1) (.slice none 0 0) (.slice none 0 0) (.int .i64 0) from by
    exact heap_new' _ _ _ (by simp))
  have q0 : ∀ dd os, (fut (((w.alloc (.cells #[.slice A n c, .slice B m d, .int .i64 s] 25)).alloc (.cells #[.int .i64 fr, .int .i64 od, .int .i64 nw] 45)).alloc (.cells #[.slice none 0 0, .slice none 0 0, .int .i64 0] 25)) dd os).cell? ⟨w.heap.size, 0, none⟩ = some (.slice A n c) := cell_fut (by (repeat (first | exact (cell_al_new _ _ _ _ _ _ (by first | rfl | (simp only [World.size_alloc]))).trans rfl | refine (cell_al_old _ _ _ (by first | omega | (simp only [World.size_alloc]; omega))).trans ?_)))
  have q1 : ∀ dd os, (fut (((w.alloc (.cells #[.slice A n c, .slice B m d, .int .i64 s] 25)).alloc (.cells #[.int .i64 fr, .int .i64 od, .int .i64 nw] 45)).alloc (.cells #[.slice none 0 0, .slice none 0 0, .int .i64 0] 25)) dd os).cell? ⟨w.heap.size, 1, none⟩ = some (.slice B m d) := cell_fut (by (repeat (first | exact (cell_al_new _ _ _ _ _ _ (by first | rfl | (simp only [World.size_alloc]))).trans rfl | refine (cell_al_old _ _ _ (by first | omega | (simp only [World.size_alloc]; omega))).trans ?_)))
  have q2 : ∀ dd os, (fut (((w.alloc (.cells #[.slice A n c, .slice B m d, .int .i64 s] 25)).alloc (.cells #[.int .i64 fr, .int .i64 od, .int .i64 nw] 45)).alloc (.cells #[.slice none 0 0, .slice none 0 0, .int .i64 0] 25)) dd os).cell? ⟨w.heap.size, 2, none⟩ = some (.int .i64 s) := cell_fut (by (repeat (first | exact (cell_al_new _ _ _ _ _ _ (by first | rfl | (simp only [World.size_alloc]))).trans rfl | refine (cell_al_old _ _ _ (by first | omega | (simp only [World.size_alloc]; omega))).trans ?_)))
  have q3 : ∀ dd os, (fut (((w.alloc (.cells #[.slice A n c, .slice B m d, .int .i64 s] 25)).alloc (.cells #[.int .i64 fr, .int .i64 od, .int .i64 nw] 45)).alloc (.cells #[.slice none 0 0, .slice none 0 0, .int .i64 0] 25)) dd os).cell? ⟨w.heap.size + 1, 0, none⟩ = some (.int .i64 fr) := cell_fut (by (repeat (first | exact (cell_al_new _ _ _ _ _ _ (by first | rfl | (simp only [World.size_alloc]))).trans rfl | refine (cell_al_old _ _ _ (by first | omega | (simp only [World.size_alloc]; omega))).trans ?_)))
  have q4 : ∀ dd os, (fut (((w.alloc (.cells #[.slice A n c, .slice B m d, .int .i64 s] 25)).alloc (.cells #[.int .i64 fr, .int .i64 od, .int .i64 nw] 45)).alloc (.cells #[.slice none 0 0, .slice none 0 0, .int .i64 0] 25)) dd os).cell? ⟨w.heap.size + 1, 1, none⟩ = some (.int .i64 od) := cell_fut (by (repeat (first | exact (cell_al_new _ _ _ _ _ _ (by first | rfl | (simp only [World.size_alloc]))).trans rfl | refine (cell_al_old _ _ _ (by first | omega | (simp only [World.size_alloc]; omega))).trans ?_)))
  have q5 : ∀ dd os, (fut (((w.alloc (.cells #[.slice A n c, .slice B m d, .int .i64 s] 25)).alloc (.cells #[.int .i64 fr, .int .i64 od, .int .i64 nw] 45)).alloc (.cells #[.slice none 0 0, .slice none 0 0, .int .i64 0] 25)) dd os).cell? ⟨w.heap.size + 1, 2, none⟩ = some (.int .i64 nw) := cell_fut (by (repeat (first | exact (cell_al_new _ _ _ _ _ _ (by first | rfl | (simp only [World.size_alloc]))).trans rfl | refine (cell_al_old _ _ _ (by first | omega | (simp only [World.size_alloc]; omega))).trans ?_)))
  have hsz : (((w.alloc (.cells #[.slice A n c, .slice B m d, .int .i64 s] 25)).alloc (.cells #[.int .i64 fr, .int .i64 od, .int .i64 nw] 45)).alloc (.cells #[.slice none 0 0, .slice none 0 0, .int .i64 0] 25)).heap.size = w.heap.size + 1 + 1 + 1 := by simp
  have HCA := Lib.hid (fun dd os => HCI.out.fut (Fut.fut (((w.alloc (.cells #[.slice A n c, .slice B m d, .int .i64 s] 25)).alloc (.cells #[.int .i64 fr, .int .i64 od, .int .i64 nw] 45)).alloc (.cells #[.slice none 0 0, .slice none 0 0, .int .i64 0] 25)) dd os))
  have i0 := fun dd os => (HCA.out dd os).c0
  have i1 := fun dd os => (HCA.out dd os).c1
  have i2 := fun dd os => (HCA.out dd os).c2
  have i3 := fun dd os => (HCA.out dd os).fz 0
  have i4 := fun dd os => (HCA.out dd os).fz 1
  have i5 := fun dd os => (HCA.out dd os).fz 2
  have HVA := Lib.hid (fun w' h1 h2 => rValid_any (m : Int) A n c cs B m d ins s w' HL.out (by unfold maxLen; omega) h1 HIL.out (by unfold maxLen; omega) h2)
  have HVC := Lib.hid (fun w' h1 => rcols_any (m : Int) L ln lc ls w' HLL.out (by unfold maxLen; omega) h1)
  by_cases hg : (validI (m : Int) cs ins s = true ∧ ls.all (colB (m : Int)) = true) ∧ (ln : Int) = nw
  · obtain ⟨⟨g1, g2⟩, rfl⟩ := hg
    rw [g1] at HVA
    rw [g2] at HVC
    have HE := Lib.hid (show repE cs ins s fr od (ln : Int) ls = repN n fr od ln from by
      unfold repE
      rw [HIL.out, HL.out, HLL.out, if_pos ⟨⟨g1, g2⟩, rfl⟩])
    clear g1 g2
    by_cases h2 : fr < 0 ∨ od < 0 ∨ (n : Int) < fr ∨ (n : Int) - fr < od
    · have HFin := Lib.hid (show repE cs ins s fr od (ln : Int) ls = 2 from by rw [HE.out]; unfold repN; rw [if_pos h2])
      have hor : fr < 0 ∨ (¬ fr < 0 ∧ od < 0) ∨ (¬ fr < 0 ∧ ¬ od < 0 ∧ (n : Int) < fr) ∨ (¬ fr < 0 ∧ ¬ od < 0 ∧ ¬ (n : Int) < fr ∧ (n : Int) - fr < od) := by omega
      clear h2
      rcases hor with h1 | ⟨h1, h2⟩ | ⟨h1, h2, h3⟩ | ⟨h1, h2, h3, h4⟩
      all_goals
        go_enter Try.func20, Try.ntmps20
        go_wp2_with (first | (go_at_call 12; refine (HVA.out _ (RA.out.fut HWW.out) (RB.out.fut HWW.out)).mono ?_; rintro e w1 ⟨rfl, hb1⟩; obtain ⟨dd, oo, rfl⟩ := fut_of hb1; clear hb1) | (go_at_call 26; refine (HVC.out _ (RL.out.fut (HWW.out.trans (Fut.fut _ _ _)))).mono ?_; rintro e w1 ⟨rfl, hb1⟩; obtain ⟨d2, o2, rfl⟩ := fut_of (Fut.trans (Fut.fut _ _ _) hb1); clear hb1))
        have HCZ := Lib.hid ((HCA.out d2 o2).sets (.slice none 0 0) (.slice none 0 0) (.int .i64 0))
        have HFZ := Lib.hid (sets_fut (b := w.heap.size + 1 + 1) (HWW.out.trans (Fut.fut _ d2 o2)) (by omega) (.slice none 0 0) (.slice none 0 0) (.int .i64 0))
        refine bodyPost_ret (res_cell2 rrep_res _ _ (w.heap.size + 1 + 1) _ _ _ _ rfl HCZ.out Try.underlying25 rfl (by kernel_rfl)) rfl ?_
        rw [HFin.out]
        exact ⟨⟨fun _ => rfl, fun h => absurd h (by decide)⟩, HFZ.out⟩
    · obtain ⟨fn, rfl⟩ : ∃ q : Nat, fr = q := Int.eq_ofNat_of_zero_le (by omega)
      obtain ⟨on, rfl⟩ : ∃ q : Nat, od = q := Int.eq_ofNat_of_zero_le (by omega)
      have hf1 : fn + on ≤ n := by omega
      have hf2 : ¬ (n : Int) < fn := by omega
      have hf3 : ¬ (n : Int) - fn < on := by omega
      by_cases h6 : 60 < (n : Int) - on + ln
      · have HFin := Lib.hid (show repE cs ins s fn on (ln : Int) ls = 11 from by rw [HE.out]; unfold repN; rw [if_neg h2, if_pos h6])
        clear h2
        go_enter Try.func20, Try.ntmps20
        go_wp2_with (first | (go_at_call 12; refine (HVA.out _ (RA.out.fut HWW.out) (RB.out.fut HWW.out)).mono ?_; rintro e w1 ⟨rfl, hb1⟩; obtain ⟨dd, oo, rfl⟩ := fut_of hb1; clear hb1) | (go_at_call 26; refine (HVC.out _ (RL.out.fut (HWW.out.trans (Fut.fut _ _ _)))).mono ?_; rintro e w1 ⟨rfl, hb1⟩; obtain ⟨d2, o2, rfl⟩ := fut_of (Fut.trans (Fut.fut _ _ _) hb1); clear hb1))
        have HCZ := Lib.hid ((HCA.out d2 o2).sets (.slice none 0 0) (.slice none 0 0) (.int .i64 0))
        have HFZ := Lib.hid (sets_fut (b := w.heap.size + 1 + 1) (HWW.out.trans (Fut.fut _ d2 o2)) (by omega) (.slice none 0 0) (.slice none 0 0) (.int .i64 0))
        refine bodyPost_ret (res_cell2 rrep_res _ _ (w.heap.size + 1 + 1) _ _ _ _ rfl HCZ.out Try.underlying25 rfl (by kernel_rfl)) rfl ?_
        rw [HFin.out]
        exact ⟨⟨fun _ => rfl, fun h => absurd h (by decide)⟩, HFZ.out⟩
      · have HFin := Lib.hid (show repE cs ins s fn on (ln : Int) ls = 0 from by rw [HE.out]; unfold repN; rw [if_neg h2, if_neg h6])
        clear h2
        go_enter Try.func20, Try.ntmps20
        go_wp2_with (first | (go_at_call 12; refine (HVA.out _ (RA.out.fut HWW.out) (RB.out.fut HWW.out)).mono ?_; rintro e w1 ⟨rfl, hb1⟩; obtain ⟨dd, oo, rfl⟩ := fut_of hb1; clear hb1) | (go_at_call 26; refine (HVC.out _ (RL.out.fut (HWW.out.trans (Fut.fut _ _ _)))).mono ?_; rintro e w1 ⟨rfl, hb1⟩; obtain ⟨d2, o2, rfl⟩ := fut_of (Fut.trans (Fut.fut _ _ _) hb1); clear hb1))
        clear i0 i1 i2 i3 i4 i5
        generalize (((w.alloc (.cells #[.slice A n c, .slice B m d, .int .i64 s] 25)).alloc (.cells #[.int .i64 fn, .int .i64 on, .int .i64 ln] 45)).alloc (.cells #[.slice none 0 0, .slice none 0 0, .int .i64 0] 25)) = wb at *
        obtain ⟨wu, hwu⟩ : ∃ q, q = fut wb d2 o2 := ⟨_, rfl⟩
        have HFU := Lib.hid (show Fut wb wu from by rw [hwu]; exact Fut.fut _ _ _)
        have u0 := q0 d2 o2
        have u3 := q3 d2 o2
        have u4 := q4 d2 o2
        rw [← hwu] at u0 u3 u4 ⊢
        clear hwu q0 q1 q2 q3 q4 q5
        obtain ⟨bo, hbo⟩ : ∃ q, q = wu.heap.size := ⟨_, rfl⟩
        have HFO := Lib.hid (show Fut wb (wu.alloc (.cells #[.slice A n c, .slice B m d, .int .i64 s] 25)) from HFU.out.alloc _)
        have HCO := Lib.hid (show CelI (wu.alloc (.cells #[.slice A n c, .slice B m d, .int .i64 s] 25)) bo (.slice A n c) (.slice B m d) (.int .i64 s) from heap_new' _ _ _ hbo)
        have hbo2 : bo < (wu.alloc (.cells #[.slice A n c, .slice B m d, .int .i64 s] 25)).heap.size := by rw [World.size_alloc]; omega
        have hbo3 := HFU.out.size
        have o0 := ((Fut.refl wu).alloc (.cells #[.slice A n c, .slice B m d, .int .i64 s] 25)).cell u0
        have o3 := ((Fut.refl wu).alloc (.cells #[.slice A n c, .slice B m d, .int .i64 s] 25)).cell u3
        have o4 := ((Fut.refl wu).alloc (.cells #[.slice A n c, .slice B m d, .int .i64 s] 25)).cell u4
        rw [← hbo] at hbo3 ⊢
        clear u0 u3 u4 hbo
        generalize wu.alloc (.cells #[.slice A n c, .slice B m d, .int .i64 s] 25) = wo at *
        have HFWO := Lib.hid (show Fut w wo from HWW.out.trans HFO.out)
        have hfc : fn ≤ c := by omega
        have hwr : IntKind.i64.wrap ((fn : Int) + (on : Int)) = (fn : Int) + (on : Int) := by rw [IntKind.wrap_i64]; omega
        have hwr0 : IntKind.i64.wrap 0 = 0 := by rw [IntKind.wrap_i64]; omega
        have hc1 : (0 ≤ (fn : Int) + (on : Int)) = True := eq_true (by omega)
        have hc2 : ((fn : Int) + (on : Int) ≤ (n : Int)) = True := eq_true (by omega)
        have hc3 : ((fn : Int) + (on : Int)).toNat = fn + on := by omega
        rcases HAN.out with ⟨hz1, hz2⟩ | ⟨b, o, rfl⟩
        · subst hz1 hz2
          have hfn : fn = 0 := by omega
          have hon : on = 0 := by omega
          subst hfn hon
          clear hwr hc1 hc2 hc3
          obtain ⟨S, hS⟩ : ∃ S : Nat → Bool, S = fun q => decide (bo ≤ q) := ⟨_, rfl⟩
          have s0 : S w.heap.size = false := by rw [hS]; exact decide_eq_false (by omega)
          have s1 : S (w.heap.size + 1) = false := by rw [hS]; exact decide_eq_false (by omega)
          have hSo : ∀ q, wo.heap.size ≤ q → S q = true := fun q hq => by rw [hS]; exact decide_eq_true (by omega)
          clear hS
          have r0 := cell_futS o0 s0
          have r1 := cell_futS o3 s1
          have r2 := cell_futS o4 s1
          refine wp_region_MG (relS S) o_emendateref35_Replace_9 (by kernel_rfl) (by kernel_rfl) (by intro c a d v w h; cases d <;> exact h) ?_; unfold o_emendateref35_Replace_9
          iterate 14 (refine wpS_h rfl rfl (fun K hK => ?_); go_simp; refine hK _ _ ?_; clear hK K)
          refine wpG_o rfl rfl (fun K hK => ?_)
          go_simp
          go_at_K
          refine hK _ _ (.inr ((relS S).of_fut ((Fut.refl _).alloc _))) ?_
          clear hK K
          have hm0 : (wo.alloc (.cells #[] 51)).drew.ownsRow wo.heap.size 51 3 (.slice (some ⟨wo.heap.size, 0, none⟩) 0 0) 0 (([] : List CC).flatMap encC) := made_cols wo
          have fo0 : Fut wo (wo.alloc (.cells #[] 51)).drew := ((Fut.refl wo).alloc _).drew
          have hm1 : wo.heap.size ≤ (wo.alloc (.cells #[] 51)).drew.heap.size := fo0.size
          refine wpG_o rfl rfl (fun K hK => ?_)
          refine wpo_append_cols (.tmp 69) (.tmp 74) rfl wo.heap.size _ 0 [] rfl hm0 A 0 0 [] rfl (by first | rfl | (have := HL.out; simp; omega)) (by omega) (by omega) (fun _ => ⟨rfl, rfl⟩) (show RdC _ A [] from ⟨RdS.nil, fun _ h => by simp at h⟩).1 hm1 ?_
          intro v5 w5 hn5 hg5
          refine hK _ _ (.inr (futS_own hm0 hg5 hSo)) ?_
          clear hK K
          have fo5 : Fut wo w5 := Below.grown fo0 hg5 hm1 (fun q hq => (World.ownsRow.lt hm0 q hq).1)
          refine wpG_o rfl rfl (fun K hK => ?_)
          refine wpo_append_cols (.tmp 75) (.tmp 76) rfl wo.heap.size v5 _ _ rfl hn5 L ln lc ls rfl HLL.out hln (by omega) HLN.out (RL.out.fut (HFWO.out.trans fo5)).1 fo5.size ?_
          intro v6 w6 hn6 hg6
          refine hK _ _ (.inr (futS_own hn5 hg6 hSo)) ?_
          clear hK K
          have fo6 : Fut wo w6 := Below.grown fo5 hg6 fo5.size (fun q hq => (World.ownsRow.lt hn5 q hq).1)
          refine wpG_o rfl rfl (fun K hK => ?_)
          refine wpo_append_cols (.tmp 77) (.tmp 85) rfl wo.heap.size v6 _ _ rfl hn6 A 0 0 [] rfl (by first | rfl | (have := HL.out; simp; omega)) (by omega) (by omega) (fun _ => ⟨rfl, rfl⟩) (show RdC _ A [] from ⟨RdS.nil, fun _ h => by simp at h⟩).1 fo6.size ?_
          intro v7 w7 hn7 hg7
          refine hK _ _ (.inr (futS_own hn6 hg7 hSo)) ?_
          clear hK K
          have fo7 : Fut wo w7 := Below.grown fo6 hg7 fo6.size (fun q hq => (World.ownsRow.lt hn6 q hq).1)
          have hxs : ([] ++ [] ++ ls) ++ [] = repC cs ls 0 0 := by unfold repC; rw [show cs = [] from List.length_eq_zero_iff.1 HL.out]; simp
          rw [hxs] at hn7
          have hnn : 0 + 0 + ln + 0 = (repC cs ls 0 0).length := by
            unfold repC
            simp only [List.length_append, List.length_take, List.length_drop, HL.out, HLL.out]
            omega
          rw [hnn] at hn7
          have hv7 : ∃ RA Rc, v7 = .slice RA (repC cs ls 0 0).length Rc ∧ ∀ b q z, RA = some ⟨b, q, z⟩ → wo.heap.size ≤ b := by
            rcases hn7.2 with ⟨h, h0⟩ | ⟨g, cap, cur, h, hg, _⟩
            · exact ⟨none, 0, by rw [h, h0], fun _ _ _ e => by cases e⟩
            · exact ⟨_, _, h, fun b q z e => by injection e with e; injection e with e _ _; omega⟩
          obtain ⟨RA5, Rc5, rfl, hlow5⟩ := hv7
          have HLOW5 := Lib.hid hlow5
          have HRD5 := Lib.hid (show RdS w7 RA5 3 encC (repC cs ls 0 0) from RdS.of_own encC_len (by decide) hn7)
          have HF7 := Lib.hid (show Fut wb w7 from HFO.out.trans fo7)
          have HO7 := Lib.hid (HCO.out.fut fo7)
          clear hm0 hn5 hn6 hn7 hg5 hg6 hg7 hxs hnn hlow5 fo0 hm1 fo5 fo6 fo7
          (refine wpS_h rfl rfl (fun K hK => ?_); go_simp; refine hK _ _ ?_; clear hK K)
          refine wpG_o rfl rfl (fun K hK => ?_)
          have z0 := HO7.out.c0
          have z1 := HO7.out.fz 0
          go_simp
          refine hK _ _ (.inl (by kernel_rfl)) ?_
          clear hK K z0 z1
          refine wpG_nil ?_
          obtain ⟨N5, hN5⟩ : ∃ q, q = (repC cs ls 0 0).length := ⟨_, rfl⟩
          rw [← hN5]
          have HP7 := Lib.hid (show CelI (w7.setCell ⟨bo, 0, none⟩ (.slice RA5 N5 Rc5)) bo (.slice RA5 N5 Rc5) (.slice B m d) (.int .i64 s) from block_set w7 bo 0 _ _ _ HO7.out)
          have HFS := Lib.hid (show Fut wb (w7.setCell ⟨bo, 0, none⟩ (.slice RA5 N5 Rc5)) from HF7.out.setCell (by simp only; omega) _)
          have HRS := Lib.hid (show RdS (w7.setCell ⟨bo, 0, none⟩ (.slice RA5 N5 Rc5)) RA5 3 encC (repC cs ls 0 0) from by
            intro i a hi
            obtain ⟨b', o', e, hc'⟩ := HRD5.out i a hi
            have hb' := HLOW5.out b' o' _ e
            refine ⟨b', o', e, fun j u hj hu => ?_⟩
            rw [World.cell?_of_block (blk_setCell_other _ _ _ _ (by simp only; omega))]
            exact hc' j u hj hu)
          generalize w7.setCell ⟨bo, 0, none⟩ (.slice RA5 N5 Rc5) = w8 at *
          have i0 := (HCI.out.fut HFS.out).c0
          have i1 := (HCI.out.fut HFS.out).c1
          have i2 := (HCI.out.fut HFS.out).c2
          have i3 := (HCI.out.fut HFS.out).fz 0
          have i4 := (HCI.out.fut HFS.out).fz 1
          have i5 := (HCI.out.fut HFS.out).fz 2
          have t0 := HP7.out.c0
          have t1 := HP7.out.c1
          have t2 := HP7.out.c2
          have HCZ := Lib.hid ((HCI.out.fut HFS.out).sets (.slice RA5 N5 Rc5) (.slice B m d) (.int .i64 s))
          have HFZ := Lib.hid (sets_fut (b := w.heap.size + 1 + 1) (HWW.out.trans HFS.out) (by omega) (.slice RA5 N5 Rc5) (.slice B m d) (.int .i64 s))
          have HRZ := Lib.hid (show RdC (((w8.setCell ⟨w.heap.size + 1 + 1, 0, none⟩ (.slice RA5 N5 Rc5)).setCell ⟨w.heap.size + 1 + 1, 1, none⟩ (.slice B m d)).setCell ⟨w.heap.size + 1 + 1, 2, none⟩ (.int .i64 s)) RA5 (repC cs ls 0 0) from by
            refine ⟨rds_sets HRS.out (w.heap.size + 1 + 1) (fun b' o' q' e' => by have h1 := HLOW5.out b' o' q' e'; omega) _ _ _, fun e he => ?_⟩
            rcases mem_rep he with he | he
            · exact ⟨(RA.out.2 e he).1.fut HFZ.out, (RA.out.2 e he).2⟩
            · exact ⟨(RL.out.2 e he).1.fut HFZ.out, (RL.out.2 e he).2⟩)
          have HN5 := Lib.hid hN5
          clear hN5
          go_wp2_with fail
          refine bodyPost_ret (res_cell2 rrep_res _ _ (w.heap.size + 1 + 1) _ _ _ _ rfl HCZ.out Try.underlying25 rfl (by kernel_rfl)) rfl ?_
          rw [show repE cs ins s 0 0 (ln : Int) ls = 0 from HFin.out]
          exact ⟨⟨fun h => absurd rfl h, fun _ => ⟨RA5, Rc5, by show _ = Ending.returned (.tuple #[iv RA5 (repC cs ls 0 0).length Rc5 B m d s, .int .i64 0]); rw [← HN5.out]; rfl, HRZ.out⟩⟩, HFZ.out⟩
        · obtain ⟨S, hS⟩ : ∃ S : Nat → Bool, S = fun q => decide (bo ≤ q) := ⟨_, rfl⟩
          have s0 : S w.heap.size = false := by rw [hS]; exact decide_eq_false (by omega)
          have s1 : S (w.heap.size + 1) = false := by rw [hS]; exact decide_eq_false (by omega)
          have hSo : ∀ q, wo.heap.size ≤ q → S q = true := fun q hq => by rw [hS]; exact decide_eq_true (by omega)
          clear hS
          have r0 := cell_futS o0 s0
          have r1 := cell_futS o3 s1
          have r2 := cell_futS o4 s1
          refine wp_region_MG (relS S) o_emendateref35_Replace_9 (by kernel_rfl) (by kernel_rfl) (by intro c a d v w h; cases d <;> exact h) ?_; unfold o_emendateref35_Replace_9
          iterate 14 (refine wpS_h rfl rfl (fun K hK => ?_); go_simp; refine hK _ _ ?_; clear hK K)
          generalize hA3 : (if c = fn + on then some (⟨b, o, none⟩ : Addr) else some ⟨b, o + (fn + on) * 3, none⟩) = A3
          have HA3 := Lib.hid hA3
          clear hA3
          refine wpG_o rfl rfl (fun K hK => ?_)
          go_simp
          go_at_K
          refine hK _ _ (.inr ((relS S).of_fut ((Fut.refl _).alloc _))) ?_
          clear hK K
          have hm0 : (wo.alloc (.cells #[] 51)).drew.ownsRow wo.heap.size 51 3 (.slice (some ⟨wo.heap.size, 0, none⟩) 0 0) 0 (([] : List CC).flatMap encC) := made_cols wo
          have fo0 : Fut wo (wo.alloc (.cells #[] 51)).drew := ((Fut.refl wo).alloc _).drew
          have hm1 : wo.heap.size ≤ (wo.alloc (.cells #[] 51)).drew.heap.size := fo0.size
          refine wpG_o rfl rfl (fun K hK => ?_)
          refine wpo_append_cols (.tmp 69) (.tmp 74) rfl wo.heap.size _ 0 [] rfl hm0 (some ⟨b, o, none⟩) fn c (cs.take fn) rfl (by first | rfl | (have := HL.out; simp; omega)) (by omega) (by omega) (fun h => by cases h) (((RA.out.fut HFWO.out).fut fo0).take fn).1 hm1 ?_
          intro v5 w5 hn5 hg5
          refine hK _ _ (.inr (futS_own hm0 hg5 hSo)) ?_
          clear hK K
          have fo5 : Fut wo w5 := Below.grown fo0 hg5 hm1 (fun q hq => (World.ownsRow.lt hm0 q hq).1)
          refine wpG_o rfl rfl (fun K hK => ?_)
          refine wpo_append_cols (.tmp 75) (.tmp 76) rfl wo.heap.size v5 _ _ rfl hn5 L ln lc ls rfl HLL.out hln (by omega) HLN.out (RL.out.fut (HFWO.out.trans fo5)).1 fo5.size ?_
          intro v6 w6 hn6 hg6
          refine hK _ _ (.inr (futS_own hn5 hg6 hSo)) ?_
          clear hK K
          have fo6 : Fut wo w6 := Below.grown fo5 hg6 fo5.size (fun q hq => (World.ownsRow.lt hn5 q hq).1)
          refine wpG_o rfl rfl (fun K hK => ?_)
          refine wpo_append_cols (.tmp 77) (.tmp 85) rfl wo.heap.size v6 _ _ rfl hn6 A3 (n - (fn + on)) (c - (fn + on)) (cs.drop (fn + on)) rfl (by first | rfl | (have := HL.out; simp; omega)) (by omega) (by omega) (fun h => by have h1 := HA3.out; rw [h] at h1; split at h1 <;> cases h1) (rdc_tail ((RA.out.fut HFWO.out).fut fo6) (fn + on) c (by have := HL.out; omega) HA3.out).1 fo6.size ?_
          intro v7 w7 hn7 hg7
          refine hK _ _ (.inr (futS_own hn6 hg7 hSo)) ?_
          clear hK K
          have fo7 : Fut wo w7 := Below.grown fo6 hg7 fo6.size (fun q hq => (World.ownsRow.lt hn6 q hq).1)
          have hxs : ([] ++ (cs.take fn) ++ ls) ++ (cs.drop (fn + on)) = repC cs ls fn on := by simp [repC]
          rw [hxs] at hn7
          have hnn : 0 + fn + ln + (n - (fn + on)) = (repC cs ls fn on).length := by
            unfold repC
            simp only [List.length_append, List.length_take, List.length_drop, HL.out, HLL.out]
            omega
          rw [hnn] at hn7
          have hv7 : ∃ RA Rc, v7 = .slice RA (repC cs ls fn on).length Rc ∧ ∀ b q z, RA = some ⟨b, q, z⟩ → wo.heap.size ≤ b := by
            rcases hn7.2 with ⟨h, h0⟩ | ⟨g, cap, cur, h, hg, _⟩
            · exact ⟨none, 0, by rw [h, h0], fun _ _ _ e => by cases e⟩
            · exact ⟨_, _, h, fun b q z e => by injection e with e; injection e with e _ _; omega⟩
          obtain ⟨RA5, Rc5, rfl, hlow5⟩ := hv7
          have HLOW5 := Lib.hid hlow5
          have HRD5 := Lib.hid (show RdS w7 RA5 3 encC (repC cs ls fn on) from RdS.of_own encC_len (by decide) hn7)
          have HF7 := Lib.hid (show Fut wb w7 from HFO.out.trans fo7)
          have HO7 := Lib.hid (HCO.out.fut fo7)
          clear hm0 hn5 hn6 hn7 hg5 hg6 hg7 hxs hnn hlow5 fo0 hm1 fo5 fo6 fo7
          (refine wpS_h rfl rfl (fun K hK => ?_); go_simp; refine hK _ _ ?_; clear hK K)
          refine wpG_o rfl rfl (fun K hK => ?_)
          have z0 := HO7.out.c0
          have z1 := HO7.out.fz 0
          go_simp
          refine hK _ _ (.inl (by kernel_rfl)) ?_
          clear hK K z0 z1
          refine wpG_nil ?_
          obtain ⟨N5, hN5⟩ : ∃ q, q = (repC cs ls fn on).length := ⟨_, rfl⟩
          rw [← hN5]
          have HP7 := Lib.hid (show CelI (w7.setCell ⟨bo, 0, none⟩ (.slice RA5 N5 Rc5)) bo (.slice RA5 N5 Rc5) (.slice B m d) (.int .i64 s) from block_set w7 bo 0 _ _ _ HO7.out)
          have HFS := Lib.hid (show Fut wb (w7.setCell ⟨bo, 0, none⟩ (.slice RA5 N5 Rc5)) from HF7.out.setCell (by simp only; omega) _)
          have HRS := Lib.hid (show RdS (w7.setCell ⟨bo, 0, none⟩ (.slice RA5 N5 Rc5)) RA5 3 encC (repC cs ls fn on) from by
            intro i a hi
            obtain ⟨b', o', e, hc'⟩ := HRD5.out i a hi
            have hb' := HLOW5.out b' o' _ e
            refine ⟨b', o', e, fun j u hj hu => ?_⟩
            rw [World.cell?_of_block (blk_setCell_other _ _ _ _ (by simp only; omega))]
            exact hc' j u hj hu)
          generalize w7.setCell ⟨bo, 0, none⟩ (.slice RA5 N5 Rc5) = w8 at *
          have i0 := (HCI.out.fut HFS.out).c0
          have i1 := (HCI.out.fut HFS.out).c1
          have i2 := (HCI.out.fut HFS.out).c2
          have i3 := (HCI.out.fut HFS.out).fz 0
          have i4 := (HCI.out.fut HFS.out).fz 1
          have i5 := (HCI.out.fut HFS.out).fz 2
          have t0 := HP7.out.c0
          have t1 := HP7.out.c1
          have t2 := HP7.out.c2
          have HCZ := Lib.hid ((HCI.out.fut HFS.out).sets (.slice RA5 N5 Rc5) (.slice B m d) (.int .i64 s))
          have HFZ := Lib.hid (sets_fut (b := w.heap.size + 1 + 1) (HWW.out.trans HFS.out) (by omega) (.slice RA5 N5 Rc5) (.slice B m d) (.int .i64 s))
          have HRZ := Lib.hid (show RdC (((w8.setCell ⟨w.heap.size + 1 + 1, 0, none⟩ (.slice RA5 N5 Rc5)).setCell ⟨w.heap.size + 1 + 1, 1, none⟩ (.slice B m d)).setCell ⟨w.heap.size + 1 + 1, 2, none⟩ (.int .i64 s)) RA5 (repC cs ls fn on) from by
            refine ⟨rds_sets HRS.out (w.heap.size + 1 + 1) (fun b' o' q' e' => by have h1 := HLOW5.out b' o' q' e'; omega) _ _ _, fun e he => ?_⟩
            rcases mem_rep he with he | he
            · exact ⟨(RA.out.2 e he).1.fut HFZ.out, (RA.out.2 e he).2⟩
            · exact ⟨(RL.out.2 e he).1.fut HFZ.out, (RL.out.2 e he).2⟩)
          have HN5 := Lib.hid hN5
          clear hN5
          go_wp2_with fail
          refine bodyPost_ret (res_cell2 rrep_res _ _ (w.heap.size + 1 + 1) _ _ _ _ rfl HCZ.out Try.underlying25 rfl (by kernel_rfl)) rfl ?_
          rw [HFin.out]
          exact ⟨⟨fun h => absurd rfl h, fun _ => ⟨RA5, Rc5, by show _ = Ending.returned (.tuple #[iv RA5 (repC cs ls fn on).length Rc5 B m d s, .int .i64 0]); rw [← HN5.out]; rfl, HRZ.out⟩⟩, HFZ.out⟩
  · have HFin := Lib.hid (show repE cs ins s fr od nw ls = 1 from by
      unfold repE
      rw [HIL.out, HLL.out, if_neg hg])
    have hor : validI (m : Int) cs ins s = false ∨ (validI (m : Int) cs ins s = true ∧ ls.all (colB (m : Int)) = false) ∨ ((validI (m : Int) cs ins s = true ∧ ls.all (colB (m : Int)) = true) ∧ ¬ (ln : Int) = nw) := by
      cases g1 : validI (m : Int) cs ins s with
      | false => exact .inl rfl
      | true =>
        cases g2 : ls.all (colB (m : Int)) with
        | false => exact .inr (.inl ⟨rfl, rfl⟩)
        | true => exact .inr (.inr ⟨⟨rfl, rfl⟩, fun e => hg ⟨⟨g1, g2⟩, e⟩⟩)
    clear hg
    rcases hor with g1 | ⟨g1, g2⟩ | ⟨⟨g1, g2⟩, g3⟩
    · rw [g1] at HVA
      clear g1
      go_enter Try.func20, Try.ntmps20
      go_wp2_with (go_at_call 12; refine (HVA.out _ (RA.out.fut HWW.out) (RB.out.fut HWW.out)).mono ?_; rintro e w1 ⟨rfl, hb1⟩; obtain ⟨dd, oo, rfl⟩ := fut_of hb1; clear hb1)
      have HCZ := Lib.hid ((HCA.out dd oo).sets (.slice none 0 0) (.slice none 0 0) (.int .i64 0))
      have HFZ := Lib.hid (sets_fut (b := w.heap.size + 1 + 1) (HWW.out.trans (Fut.fut _ dd oo)) (by omega) (.slice none 0 0) (.slice none 0 0) (.int .i64 0))
      refine bodyPost_ret (res_cell2 rrep_res _ _ (w.heap.size + 1 + 1) _ _ _ _ rfl HCZ.out Try.underlying25 rfl (by kernel_rfl)) rfl ?_
      rw [HFin.out]
      exact ⟨⟨fun _ => rfl, fun h => absurd h (by decide)⟩, HFZ.out⟩
    · rw [g1] at HVA
      rw [g2] at HVC
      clear g1 g2
      go_enter Try.func20, Try.ntmps20
      go_wp2_with (first | (go_at_call 12; refine (HVA.out _ (RA.out.fut HWW.out) (RB.out.fut HWW.out)).mono ?_; rintro e w1 ⟨rfl, hb1⟩; obtain ⟨dd, oo, rfl⟩ := fut_of hb1; clear hb1) | (go_at_call 26; refine (HVC.out _ (RL.out.fut (HWW.out.trans (Fut.fut _ _ _)))).mono ?_; rintro e w1 ⟨rfl, hb1⟩; obtain ⟨d2, o2, rfl⟩ := fut_of (Fut.trans (Fut.fut _ _ _) hb1); clear hb1))
      have HCZ := Lib.hid ((HCA.out d2 o2).sets (.slice none 0 0) (.slice none 0 0) (.int .i64 0))
      have HFZ := Lib.hid (sets_fut (b := w.heap.size + 1 + 1) (HWW.out.trans (Fut.fut _ d2 o2)) (by omega) (.slice none 0 0) (.slice none 0 0) (.int .i64 0))
      refine bodyPost_ret (res_cell2 rrep_res _ _ (w.heap.size + 1 + 1) _ _ _ _ rfl HCZ.out Try.underlying25 rfl (by kernel_rfl)) rfl ?_
      rw [HFin.out]
      exact ⟨⟨fun _ => rfl, fun h => absurd h (by decide)⟩, HFZ.out⟩
    · rw [g1] at HVA
      rw [g2] at HVC
      obtain ⟨g3a, g3b, g3c⟩ := cmpF_no g3
      clear g1 g2 g3
      go_enter Try.func20, Try.ntmps20
      go_wp2_with (first | (go_at_call 12; refine (HVA.out _ (RA.out.fut HWW.out) (RB.out.fut HWW.out)).mono ?_; rintro e w1 ⟨rfl, hb1⟩; obtain ⟨dd, oo, rfl⟩ := fut_of hb1; clear hb1) | (go_at_call 26; refine (HVC.out _ (RL.out.fut (HWW.out.trans (Fut.fut _ _ _)))).mono ?_; rintro e w1 ⟨rfl, hb1⟩; obtain ⟨d2, o2, rfl⟩ := fut_of (Fut.trans (Fut.fut _ _ _) hb1); clear hb1))
      have HCZ := Lib.hid ((HCA.out d2 o2).sets (.slice none 0 0) (.slice none 0 0) (.int .i64 0))
      have HFZ := Lib.hid (sets_fut (b := w.heap.size + 1 + 1) (HWW.out.trans (Fut.fut _ d2 o2)) (by omega) (.slice none 0 0) (.slice none 0 0) (.int .i64 0))
      refine bodyPost_ret (res_cell2 rrep_res _ _ (w.heap.size + 1 + 1) _ _ _ _ rfl HCZ.out Try.underlying25 rfl (by kernel_rfl)) rfl ?_
      rw [HFin.out]
      exact ⟨⟨fun _ => rfl, fun h => absurd h (by decide)⟩, HFZ.out⟩
end Go.Proofs.Ytagmpbgidooibaa
