/-
  Replace, as the program has it.
-/
import Derived.Test.YtagmpbgidooibaaC18
namespace Go.Proofs.Ytagmpbgidooibaa
open Go.RowKit Go.Deep
attribute [local go_sem] Oper.lit Oper.litS fut_fut fut_drew World.cell?_alloc_some
theorem rep_res : Try.f19.results = #[.cell 6 25, .tmp 7] := by kernel_rfl
def repN (n : Nat) (fr od : Int) (ln : Nat) : Int := if fr < 0 ∨ od < 0 ∨ (n : Int) < fr ∨ (n : Int) - fr < od then 2 else if 60 < (n : Int) - od + ln then 11 else 0
def repE (cs : List CC) (ins : List Int) (s fr od nw : Int) (ls : List CC) : Int :=
  if (validI ins.length cs ins s = true ∧ ls.all (colB ins.length) = true) ∧ (ls.length : Int) = nw then repN cs.length fr od ls.length else 1
def repC (cs ls : List CC) (fr od : Nat) : List CC := cs.take fr ++ (ls ++ cs.drop (fr + od))
def RepR (w' : World) (e : Ending) (B : Option Addr) (m d : Nat) (s : Int) (E : Int) (X : List CC) : Prop :=
  (E ≠ 0 → e = .returned (.tuple #[iv none 0 0 none 0 0 0, .int .i64 E])) ∧
  (E = 0 → ∃ A c, e = .returned (.tuple #[iv A X.length c B m d s, .int .i64 0]) ∧ RdC w' A X)
theorem RdC.take {w : World} {A : Option Addr} {cs : List CC} (h : RdC w A cs) (k : Nat) : RdC w A (cs.take k) := by
  refine ⟨fun i a hi => h.1 i a ?_, fun c hc => h.2 c (List.mem_of_mem_take hc)⟩
  have hl := (List.getElem?_eq_some_iff.1 hi).1
  rw [List.length_take] at hl
  rwa [List.getElem?_take_of_lt (by omega)] at hi
theorem RdC.drop {w : World} {b o : Nat} {cs : List CC} (h : RdC w (some ⟨b, o, none⟩) cs) (k : Nat) : RdC w (some ⟨b, o + k * 3, none⟩) (cs.drop k) := by
  refine ⟨fun i a hi => ?_, fun c hc => h.2 c (List.mem_of_mem_drop hc)⟩
  rw [List.getElem?_drop] at hi
  obtain ⟨b', o', e, hc⟩ := h.1 _ _ hi
  injection e with e
  injection e with e1 e2 _
  subst e1 e2
  refine ⟨b, o + k * 3, rfl, fun j u hj hu => ?_⟩
  have := hc j u hj hu
  rwa [show o + (k + i) * 3 + j = o + k * 3 + i * 3 + j by omega] at this
theorem rds_sets {w : World} {A : Option Addr} {cs : List CC} (h : RdS w A 3 encC cs) (k : Nat) (hA : ∀ b o q, A = some ⟨b, o, q⟩ → b ≠ k) (u0 u1 u2 : Value) : RdS (((w.setCell ⟨k, 0, none⟩ u0).setCell ⟨k, 1, none⟩ u1).setCell ⟨k, 2, none⟩ u2) A 3 encC cs := by
  intro i a hi
  obtain ⟨b, o, e, hc⟩ := h i a hi
  have hb := hA b o _ e
  refine ⟨b, o, e, fun j u hj hu => ?_⟩
  rw [World.cell?_of_block (blk_setCell_other _ _ _ _ hb), World.cell?_of_block (blk_setCell_other _ _ _ _ hb), World.cell?_of_block (blk_setCell_other _ _ _ _ hb)]
  exact hc j u hj hu
theorem mem_rep {cs ls : List CC} {f o : Nat} {e : CC} (h : e ∈ repC cs ls f o) : e ∈ cs ∨ e ∈ ls := by
  unfold repC at h
  rcases List.mem_append.1 h with h | h
  · exact .inl (List.mem_of_mem_take h)
  · rcases List.mem_append.1 h with h | h
    · exact .inr h
    · exact .inl (List.mem_of_mem_drop h)
theorem rdc_tail {w : World} {b o : Nat} {cs : List CC} {A : Option Addr} (h : RdC w (some ⟨b, o, none⟩) cs) (k c : Nat) (hc : cs.length ≤ c) (hA : (if c = k then some (⟨b, o, none⟩ : Addr) else some ⟨b, o + k * 3, none⟩) = A) : RdC w A (cs.drop k) := by
  subst hA
  split
  · rw [List.drop_eq_nil_of_le (by omega)]
    exact ⟨RdS.nil, fun _ h => by simp at h⟩
  · exact h.drop k
set_option maxHeartbeats 12800000 in
set_option maxRecDepth 4000 in
theorem replace_any (A : Option Addr) (n c : Nat) (B : Option Addr) (m d : Nat) (s : Int) (fr od nw : Int) (L : Option Addr) (ln lc : Nat) (cs ls : List CC) (ins : List Int) (w : World)
    (hl : cs.length = n) (hn : n ≤ 1000) (hil : ins.length = m) (hm : m ≤ 1000) (hll : ls.length = ln) (hln : ln ≤ 1000) (hnc : n ≤ c) (hc : c ≤ maxLen) (hA : (n = 0 ∧ c = 0) ∨ ∃ b o, A = some ⟨b, o, none⟩) (hL : L = none → ln = 0 ∧ lc = 0)
    (rA : RdC w A cs) (rB : Rd1 w B (.int .i64 ·) ins) (rL : RdC w L ls) :
    Calls Try.prog 19 #[iv A n c B m d s, .agg #[.int .i64 fr, .int .i64 od, .int .i64 nw], .slice L ln lc] w fun e w' => RepR w' e B m d s (repE cs ins s fr od nw ls) (repC cs ls fr.toNat od.toNat) ∧ Below w.heap.size w w' := by
  have k1 : n ≤ 9223372036854775807 := by omega
  have k2 : m ≤ 9223372036854775807 := by omega
  have k3 : ln ≤ 9223372036854775807 := by omega
  have k4 : c ≤ 9223372036854775807 := hc
  have HL := Lib.hid hl
  have HIL := Lib.hid hil
  have HLL := Lib.hid hll
  have HAN := Lib.hid hA
  have HLN := Lib.hid hL
  have RA := Lib.hid rA
  have RB := Lib.hid rB
  have RL := Lib.hid rL
  clear hl hil hll hA hL rA rB rL hc
  have HWW := Lib.hid (show Fut w (((w.alloc (.cells #[.slice A n c, .slice B m d, .int .i64 s] 25)).alloc (.cells #[.int .i64 fr, .int .i64 od, .int .i64 nw] 45)).alloc (.cells #[.slice none 0 0, .slice none 0 0, .int .i64 0] 25)) from (((Fut.refl w).alloc _).alloc _).alloc _)
  have HCI := Lib.hid (show CelI (((w.alloc (.cells #[.slice A n c, .slice B m d, .int .i64 s] 25)).alloc (.cells #[.int .i64 fr, .int .i64 od, .int .i64 nw] 45)).alloc (.cells #[.slice none 0 0, .slice none 0 0, .int .i64 0] 25)) (w.heap.size + 1 + 1) (.slice none 0 0) (.slice none 0 0) (.int .i64 0) from by
    exact heap_new' _ _ _ (by simp))
  have q0 : ∀ dd os, (fut (((w.alloc (.cells #[.slice A n c, .slice B m d, .int .i64 s] 25)).alloc (.cells #[.int .i64 fr, .int .i64 od, .int .i64 nw] 45)).alloc (.cells #[.slice none 0 0, .slice none 0 0, .int .i64 0] 25)) dd os).cell? ⟨w.heap.size, 0, none⟩ = some (.slice A n c) := cell_fut (by (repeat (first | exact (cell_al_new _ _ _ _ _ _ (by first | rfl | (simp only [World.size_alloc]))).trans rfl | refine (cell_al_old _ _ _ (by first | omega | (simp only [World.size_alloc]; omega))).trans ?_)))
  have q1 : ∀ dd os, (fut (((w.alloc (.cells #[.slice A n c, .slice B m d, .int .i64 s] 25)).alloc (.cells #[.int .i64 fr, .int .i64 od, .int .i64 nw] 45)).alloc (.cells #[.slice none 0 0, .slice none 0 0, .int .i64 0] 25)) dd os).cell? ⟨w.heap.size, 1, none⟩ = some (.slice B m d) := cell_fut (by (repeat (first | exact (cell_al_new _ _ _ _ _ _ (by first | rfl | (simp only [World.size_alloc]))).trans rfl | refine (cell_al_old _ _ _ (by first | omega | (simp only [World.size_alloc]; omega))).trans ?_)))
  have q2 : ∀ dd os, (fut (((w.alloc (.cells #[.slice A n c, .slice B m d, .int .i64 s] 25)).alloc (.cells #[.int .i64 fr, .int .i64 od, .int .i64 nw] 45)).alloc (.cells #[.slice none 0 0, .slice none 0 0, .int .i64 0] 25)) dd os).cell? ⟨w.heap.size, 2, none⟩ = some (.int .i64 s) := cell_fut (by (repeat (first | exact (cell_al_new _ _ _ _ _ _ (by first | rfl | (simp only [World.size_alloc]))).trans rfl | refine (cell_al_old _ _ _ (by first | omega | (simp only [World.size_alloc]; omega))).trans ?_)))
  have q3 : ∀ dd os, (fut (((w.alloc (.cells #[.slice A n c, .slice B m d, .int .i64 s] 25)).alloc (.cells #[.int .i64 fr, .int .i64 od, .int .i64 nw] 45)).alloc (.cells #[.slice none 0 0, .slice none 0 0, .int .i64 0] 25)) dd os).cell? ⟨w.heap.size + 1, 0, none⟩ = some (.int .i64 fr) := cell_fut (by (repeat (first | exact (cell_al_new _ _ _ _ _ _ (by first | rfl | (simp only [World.size_alloc]))).trans rfl | refine (cell_al_old _ _ _ (by first | omega | (simp only [World.size_alloc]; omega))).trans ?_)))
  have q4 : ∀ dd os, (fut (((w.alloc (.cells #[.slice A n c, .slice B m d, .int .i64 s] 25)).alloc (.cells #[.int .i64 fr, .int .i64 od, .int .i64 nw] 45)).alloc (.cells #[.slice none 0 0, .slice none 0 0, .int .i64 0] 25)) dd os).cell? ⟨w.heap.size + 1, 1, none⟩ = some (.int .i64 od) := cell_fut (by (repeat (first | exact (cell_al_new _ _ _ _ _ _ (by first | rfl | (simp only [World.size_alloc]))).trans rfl | refine (cell_al_old _ _ _ (by first | omega | (simp only [World.size_alloc]; omega))).trans ?_)))
  have q5 : ∀ dd os, (fut (((w.alloc (.cells #[.slice A n c, .slice B m d, .int .i64 s] 25)).alloc (.cells #[.int .i64 fr, .int .i64 od, .int .i64 nw] 45)).alloc (.cells #[.slice none 0 0, .slice none 0 0, .int .i64 0] 25)) dd os).cell? ⟨w.heap.size + 1, 2, none⟩ = some (.int .i64 nw) := cell_fut (by (repeat (first | exact (cell_al_new _ _ _ _ _ _ (by first | rfl | (simp only [World.size_alloc]))).trans rfl | refine (cell_al_old _ _ _ (by first | omega | (simp only [World.size_alloc]; omega))).trans ?_)))
  have hsz : (((w.alloc (.cells #[.slice A n c, .slice B m d, .int .i64 s] 25)).alloc (.cells #[.int .i64 fr, .int .i64 od, .int .i64 nw] 45)).alloc (.cells #[.slice none 0 0, .slice none 0 0, .int .i64 0] 25)).heap.size = w.heap.size + 1 + 1 + 1 := by simp
  have HCA := Lib.hid (fun dd os => HCI.out.fut (Fut.fut (((w.alloc (.cells #[.slice A n c, .slice B m d, .int .i64 s] 25)).alloc (.cells #[.int .i64 fr, .int .i64 od, .int .i64 nw] 45)).alloc (.cells #[.slice none 0 0, .slice none 0 0, .int .i64 0] 25)) dd os))
  have i0 := fun dd os => (HCA.out dd os).c0
  have i1 := fun dd os => (HCA.out dd os).c1
  have i2 := fun dd os => (HCA.out dd os).c2
  have i3 := fun dd os => (HCA.out dd os).fz 0
  have i4 := fun dd os => (HCA.out dd os).fz 1
  have i5 := fun dd os => (HCA.out dd os).fz 2
  have HVA := Lib.hid (fun w' h1 h2 => valid_any (m : Int) A n c cs B m d ins s w' HL.out (by unfold maxLen; omega) h1 HIL.out (by unfold maxLen; omega) h2)
  have HVC := Lib.hid (fun w' h1 => vcols_any (m : Int) L ln lc ls w' HLL.out (by unfold maxLen; omega) h1)
  by_cases hg : (validI (m : Int) cs ins s = true ∧ ls.all (colB (m : Int)) = true) ∧ (ln : Int) = nw
  · obtain ⟨⟨g1, g2⟩, rfl⟩ := hg
    rw [g1] at HVA
    rw [g2] at HVC
    have HE := Lib.hid (show repE cs ins s fr od (ln : Int) ls = repN n fr od ln from by
      unfold repE
      rw [HIL.out, HL.out, HLL.out, if_pos ⟨⟨g1, g2⟩, rfl⟩])
    clear g1 g2
    by_cases h2 : fr < 0 ∨ od < 0 ∨ (n : Int) < fr ∨ (n : Int) - fr < od
    · have HFin := Lib.hid (show repE cs ins s fr od (ln : Int) ls = 2 from by rw [HE.out]; unfold repN; rw [if_pos h2])
      have hor : fr < 0 ∨ (¬ fr < 0 ∧ od < 0) ∨ (¬ fr < 0 ∧ ¬ od < 0 ∧ (n : Int) < fr) ∨ (¬ fr < 0 ∧ ¬ od < 0 ∧ ¬ (n : Int) < fr ∧ (n : Int) - fr < od) := by omega
      clear h2
      rcases hor with h1 | ⟨h1, h2⟩ | ⟨h1, h2, h3⟩ | ⟨h1, h2, h3, h4⟩
      all_goals
        go_enter Try.func19, Try.ntmps19
        go_wp2_with (first | (go_at_call 11; refine (HVA.out _ (RA.out.fut HWW.out) (RB.out.fut HWW.out)).mono ?_; rintro e w1 ⟨rfl, hb1⟩; obtain ⟨dd, oo, rfl⟩ := fut_of hb1; clear hb1) | (go_at_call 25; refine (HVC.out _ (RL.out.fut (HWW.out.trans (Fut.fut _ _ _)))).mono ?_; rintro e w1 ⟨rfl, hb1⟩; obtain ⟨d2, o2, rfl⟩ := fut_of (Fut.trans (Fut.fut _ _ _) hb1); clear hb1))
        have HCZ := Lib.hid ((HCA.out d2 o2).sets (.slice none 0 0) (.slice none 0 0) (.int .i64 0))
        have HFZ := Lib.hid (sets_fut (b := w.heap.size + 1 + 1) (HWW.out.trans (Fut.fut _ d2 o2)) (by omega) (.slice none 0 0) (.slice none 0 0) (.int .i64 0))
        refine bodyPost_ret (res_cell2 rep_res _ _ (w.heap.size + 1 + 1) _ _ _ _ rfl HCZ.out Try.underlying25 rfl (by kernel_rfl)) rfl ?_
        rw [HFin.out]
        exact ⟨⟨fun _ => rfl, fun h => absurd h (by decide)⟩, HFZ.out⟩
    · obtain ⟨fn, rfl⟩ : ∃ q : Nat, fr = q := Int.eq_ofNat_of_zero_le (by omega)
      obtain ⟨on, rfl⟩ : ∃ q : Nat, od = q := Int.eq_ofNat_of_zero_le (by omega)
      have hf1 : fn + on ≤ n := by omega
      have hf2 : ¬ (n : Int) < fn := by omega
      have hf3 : ¬ (n : Int) - fn < on := by omega
      by_cases h6 : 60 < (n : Int) - on + ln
      · have HFin := Lib.hid (show repE cs ins s fn on (ln : Int) ls = 11 from by rw [HE.out]; unfold repN; rw [if_neg h2, if_pos h6])
        clear h2
        go_enter Try.func19, Try.ntmps19
        go_wp2_with (first | (go_at_call 11; refine (HVA.out _ (RA.out.fut HWW.out) (RB.out.fut HWW.out)).mono ?_; rintro e w1 ⟨rfl, hb1⟩; obtain ⟨dd, oo, rfl⟩ := fut_of hb1; clear hb1) | (go_at_call 25; refine (HVC.out _ (RL.out.fut (HWW.out.trans (Fut.fut _ _ _)))).mono ?_; rintro e w1 ⟨rfl, hb1⟩; obtain ⟨d2, o2, rfl⟩ := fut_of (Fut.trans (Fut.fut _ _ _) hb1); clear hb1))
        have HCZ := Lib.hid ((HCA.out d2 o2).sets (.slice none 0 0) (.slice none 0 0) (.int .i64 0))
        have HFZ := Lib.hid (sets_fut (b := w.heap.size + 1 + 1) (HWW.out.trans (Fut.fut _ d2 o2)) (by omega) (.slice none 0 0) (.slice none 0 0) (.int .i64 0))
        refine bodyPost_ret (res_cell2 rep_res _ _ (w.heap.size + 1 + 1) _ _ _ _ rfl HCZ.out Try.underlying25 rfl (by kernel_rfl)) rfl ?_
        rw [HFin.out]
        exact ⟨⟨fun _ => rfl, fun h => absurd h (by decide)⟩, HFZ.out⟩
      · have HFin := Lib.hid (show repE cs ins s fn on (ln : Int) ls = 0 from by rw [HE.out]; unfold repN; rw [if_neg h2, if_neg h6])
        clear h2
        go_enter Try.func19, Try.ntmps19
        go_wp2_with (first | (go_at_call 11; refine (HVA.out _ (RA.out.fut HWW.out) (RB.out.fut HWW.out)).mono ?_; rintro e w1 ⟨rfl, hb1⟩; obtain ⟨dd, oo, rfl⟩ := fut_of hb1; clear hb1) | (go_at_call 25; refine (HVC.out _ (RL.out.fut (HWW.out.trans (Fut.fut _ _ _)))).mono ?_; rintro e w1 ⟨rfl, hb1⟩; obtain ⟨d2, o2, rfl⟩ := fut_of (Fut.trans (Fut.fut _ _ _) hb1); clear hb1))
        clear i0 i1 i2 i3 i4 i5
        generalize (((w.alloc (.cells #[.slice A n c, .slice B m d, .int .i64 s] 25)).alloc (.cells #[.int .i64 fn, .int .i64 on, .int .i64 ln] 45)).alloc (.cells #[.slice none 0 0, .slice none 0 0, .int .i64 0] 25)) = wb at *
        have hfc : fn ≤ c := by omega
        have hwr : IntKind.i64.wrap ((fn : Int) + (on : Int)) = (fn : Int) + (on : Int) := by rw [IntKind.wrap_i64]; omega
        have hwr0 : IntKind.i64.wrap 0 = 0 := by rw [IntKind.wrap_i64]; omega
        have hc1 : (0 ≤ (fn : Int) + (on : Int)) = True := eq_true (by omega)
        have hc2 : ((fn : Int) + (on : Int) ≤ (n : Int)) = True := eq_true (by omega)
        have hc3 : ((fn : Int) + (on : Int)).toNat = fn + on := by omega
        rcases HAN.out with ⟨hz1, hz2⟩ | ⟨b, o, rfl⟩
        · subst hz1 hz2
          have hfn : fn = 0 := by omega
          have hon : on = 0 := by omega
          subst hfn hon
          clear hwr hc1 hc2 hc3
          refine wp_region_M o_columns_Replace_8 (by kernel_rfl) (by kernel_rfl) (by intro c a d v w h; cases d <;> exact h) ?_; unfold o_columns_Replace_8
          iterate 14 (refine wpF_h rfl rfl (fun K hK => ?_); go_simp; refine hK _ _ ?_; clear hK K)
          refine wpF_o rfl rfl (fun K hK => ?_)
          go_simp
          go_at_K
          refine hK _ _ (.inr ((Fut.refl _).alloc _)) ?_
          clear hK K
          refine wpF_o rfl rfl (fun K hK => ?_)
          go_simp
          go_at_call 33
          have HFU := Lib.hid (Fut.fut wb (d2 + 1) o2)
          generalize fut wb (d2 + 1) o2 = wu at *
          have HFA := Lib.hid (show Fut wb (wu.alloc (.cells #[.slice A 0 0, .slice L ln lc, .slice A 0 0] 22)) from HFU.out.alloc _)
          refine (concat_any wu.heap.size A L A 0 ln 0 0 lc 0 [] ls [] _ (by (repeat (first | exact (cell_al_new _ _ _ _ _ _ (by first | rfl | (simp only [World.size_alloc]))).trans rfl | refine (cell_al_old _ _ _ (by first | omega | (simp only [World.size_alloc]; omega))).trans ?_))) (by (repeat (first | exact (cell_al_new _ _ _ _ _ _ (by first | rfl | (simp only [World.size_alloc]))).trans rfl | refine (cell_al_old _ _ _ (by first | omega | (simp only [World.size_alloc]; omega))).trans ?_))) (by (repeat (first | exact (cell_al_new _ _ _ _ _ _ (by first | rfl | (simp only [World.size_alloc]))).trans rfl | refine (cell_al_old _ _ _ (by first | omega | (simp only [World.size_alloc]; omega))).trans ?_))) (by first | rfl | (have := HL.out; simp; omega)) HLL.out (by first | rfl | (have := HL.out; simp; omega)) (by omega) hln (by omega) (fun _ => ⟨rfl, rfl⟩) HLN.out (fun _ => ⟨rfl, rfl⟩) (⟨RdS.nil, fun _ h => by simp at h⟩) (RL.out.fut (HWW.out.trans HFA.out)) (⟨RdS.nil, fun _ h => by simp at h⟩)).mono ?_
          rintro e w5 ⟨⟨RA5, Rc5, rfl, hrd5, hlow5⟩, hb5⟩
          have HLOW5 := Lib.hid hlow5
          refine hK _ _ (.inr hb5) ?_
          clear hK K
          have HF5 := Lib.hid (show Fut wb w5 from HFA.out.trans hb5)
          have HRD5 := Lib.hid hrd5
          clear hrd5 hb5 hlow5
          (refine wpF_h rfl rfl (fun K hK => ?_); go_simp; refine hK _ _ ?_; clear hK K)
          refine wpF_nil ?_
          have i0 := (HCI.out.fut HF5.out).c0
          have i1 := (HCI.out.fut HF5.out).c1
          have i2 := (HCI.out.fut HF5.out).c2
          have i3 := (HCI.out.fut HF5.out).fz 0
          have i4 := (HCI.out.fut HF5.out).fz 1
          have i5 := (HCI.out.fut HF5.out).fz 2
          obtain ⟨d5, o5, hw5⟩ := fut_of HF5.out
          have t1 := q1 d5 o5
          have t2 := q2 d5 o5
          rw [← hw5] at t1 t2
          clear hw5
          have HN5 := Lib.hid (show ln = (repC cs ls 0 0).length from by
            unfold repC
            simp only [List.length_append, List.length_take, List.length_drop, HL.out, HLL.out]
            omega)
          have HCZ := Lib.hid ((HCI.out.fut HF5.out).sets (.slice RA5 ln Rc5) (.slice B m d) (.int .i64 s))
          have HFZ := Lib.hid (sets_fut (b := w.heap.size + 1 + 1) (HWW.out.trans HF5.out) (by omega) (.slice RA5 ln Rc5) (.slice B m d) (.int .i64 s))
          have HRZ := Lib.hid (show RdC (((w5.setCell ⟨w.heap.size + 1 + 1, 0, none⟩ (.slice RA5 ln Rc5)).setCell ⟨w.heap.size + 1 + 1, 1, none⟩ (.slice B m d)).setCell ⟨w.heap.size + 1 + 1, 2, none⟩ (.int .i64 s)) RA5 (repC cs ls 0 0) from by
            refine ⟨rds_sets (by rw [← (show ([] : List CC) ++ (ls ++ []) = repC cs ls 0 0 by unfold repC; rw [show cs = [] from List.length_eq_zero_iff.1 HL.out]; rfl)]; exact HRD5.out.1) (w.heap.size + 1 + 1) (fun b' o' q' e' => by have h1 := HLOW5.out b' o' q' e'; rw [World.size_alloc] at h1; have h2 := HFU.out.size; omega) _ _ _, fun e he => ?_⟩
            rcases mem_rep he with he | he
            · exact ⟨(RA.out.2 e he).1.fut HFZ.out, (RA.out.2 e he).2⟩
            · exact ⟨(RL.out.2 e he).1.fut HFZ.out, (RL.out.2 e he).2⟩)
          go_wp2_with fail
          refine bodyPost_ret (res_cell2 rep_res _ _ (w.heap.size + 1 + 1) _ _ _ _ rfl HCZ.out Try.underlying25 rfl (by kernel_rfl)) rfl ?_
          rw [show repE cs ins s 0 0 (ln : Int) ls = 0 from HFin.out]
          exact ⟨⟨fun h => absurd rfl h, fun _ => ⟨RA5, Rc5, by show _ = Ending.returned (.tuple #[iv RA5 (repC cs ls 0 0).length Rc5 B m d s, .int .i64 0]); rw [← HN5.out]; rfl, HRZ.out⟩⟩, HFZ.out⟩
        · refine wp_region_M o_columns_Replace_8 (by kernel_rfl) (by kernel_rfl) (by intro c a d v w h; cases d <;> exact h) ?_; unfold o_columns_Replace_8
          iterate 14 (refine wpF_h rfl rfl (fun K hK => ?_); go_simp; refine hK _ _ ?_; clear hK K)
          generalize hA3 : (if c = fn + on then some (⟨b, o, none⟩ : Addr) else some ⟨b, o + (fn + on) * 3, none⟩) = A3
          have HA3 := Lib.hid hA3
          clear hA3
          refine wpF_o rfl rfl (fun K hK => ?_)
          go_simp
          go_at_K
          refine hK _ _ (.inr ((Fut.refl _).alloc _)) ?_
          clear hK K
          refine wpF_o rfl rfl (fun K hK => ?_)
          go_simp
          go_at_call 33
          have HFU := Lib.hid (Fut.fut wb (d2 + 1) o2)
          generalize fut wb (d2 + 1) o2 = wu at *
          have HFA := Lib.hid (show Fut wb (wu.alloc (.cells #[.slice (some ⟨b, o, none⟩) fn c, .slice L ln lc, .slice A3 (n - (fn + on)) (c - (fn + on))] 22)) from HFU.out.alloc _)
          refine (concat_any wu.heap.size (some ⟨b, o, none⟩) L A3 fn ln (n - (fn + on)) c lc (c - (fn + on)) (cs.take fn) ls (cs.drop (fn + on)) _ (by (repeat (first | exact (cell_al_new _ _ _ _ _ _ (by first | rfl | (simp only [World.size_alloc]))).trans rfl | refine (cell_al_old _ _ _ (by first | omega | (simp only [World.size_alloc]; omega))).trans ?_))) (by (repeat (first | exact (cell_al_new _ _ _ _ _ _ (by first | rfl | (simp only [World.size_alloc]))).trans rfl | refine (cell_al_old _ _ _ (by first | omega | (simp only [World.size_alloc]; omega))).trans ?_))) (by (repeat (first | exact (cell_al_new _ _ _ _ _ _ (by first | rfl | (simp only [World.size_alloc]))).trans rfl | refine (cell_al_old _ _ _ (by first | omega | (simp only [World.size_alloc]; omega))).trans ?_))) (by first | rfl | (have := HL.out; simp; omega)) HLL.out (by first | rfl | (have := HL.out; simp; omega)) (by omega) hln (by omega) (fun h => by cases h) HLN.out (fun h => by have h1 := HA3.out; rw [h] at h1; split at h1 <;> cases h1) ((RA.out.fut (HWW.out.trans HFA.out)).take fn) (RL.out.fut (HWW.out.trans HFA.out)) (rdc_tail (RA.out.fut (HWW.out.trans HFA.out)) (fn + on) c (by have := HL.out; omega) HA3.out)).mono ?_
          rintro e w5 ⟨⟨RA5, Rc5, rfl, hrd5, hlow5⟩, hb5⟩
          have HLOW5 := Lib.hid hlow5
          refine hK _ _ (.inr hb5) ?_
          clear hK K
          have HF5 := Lib.hid (show Fut wb w5 from HFA.out.trans hb5)
          have HRD5 := Lib.hid hrd5
          clear hrd5 hb5 hlow5
          (refine wpF_h rfl rfl (fun K hK => ?_); go_simp; refine hK _ _ ?_; clear hK K)
          refine wpF_nil ?_
          have i0 := (HCI.out.fut HF5.out).c0
          have i1 := (HCI.out.fut HF5.out).c1
          have i2 := (HCI.out.fut HF5.out).c2
          have i3 := (HCI.out.fut HF5.out).fz 0
          have i4 := (HCI.out.fut HF5.out).fz 1
          have i5 := (HCI.out.fut HF5.out).fz 2
          obtain ⟨d5, o5, hw5⟩ := fut_of HF5.out
          have t1 := q1 d5 o5
          have t2 := q2 d5 o5
          rw [← hw5] at t1 t2
          clear hw5
          have HN5 := Lib.hid (show (fn + ln + (n - (fn + on))) = (repC cs ls fn on).length from by
            unfold repC
            simp only [List.length_append, List.length_take, List.length_drop, HL.out, HLL.out]
            omega)
          have HCZ := Lib.hid ((HCI.out.fut HF5.out).sets (.slice RA5 (fn + ln + (n - (fn + on))) Rc5) (.slice B m d) (.int .i64 s))
          have HFZ := Lib.hid (sets_fut (b := w.heap.size + 1 + 1) (HWW.out.trans HF5.out) (by omega) (.slice RA5 (fn + ln + (n - (fn + on))) Rc5) (.slice B m d) (.int .i64 s))
          have HRZ := Lib.hid (show RdC (((w5.setCell ⟨w.heap.size + 1 + 1, 0, none⟩ (.slice RA5 (fn + ln + (n - (fn + on))) Rc5)).setCell ⟨w.heap.size + 1 + 1, 1, none⟩ (.slice B m d)).setCell ⟨w.heap.size + 1 + 1, 2, none⟩ (.int .i64 s)) RA5 (repC cs ls fn on) from by
            refine ⟨rds_sets (by rw [← (show cs.take fn ++ (ls ++ cs.drop (fn + on)) = repC cs ls fn on from rfl)]; exact HRD5.out.1) (w.heap.size + 1 + 1) (fun b' o' q' e' => by have h1 := HLOW5.out b' o' q' e'; rw [World.size_alloc] at h1; have h2 := HFU.out.size; omega) _ _ _, fun e he => ?_⟩
            rcases mem_rep he with he | he
            · exact ⟨(RA.out.2 e he).1.fut HFZ.out, (RA.out.2 e he).2⟩
            · exact ⟨(RL.out.2 e he).1.fut HFZ.out, (RL.out.2 e he).2⟩)
          go_wp2_with fail
          refine bodyPost_ret (res_cell2 rep_res _ _ (w.heap.size + 1 + 1) _ _ _ _ rfl HCZ.out Try.underlying25 rfl (by kernel_rfl)) rfl ?_
          rw [HFin.out]
          exact ⟨⟨fun h => absurd rfl h, fun _ => ⟨RA5, Rc5, by show _ = Ending.returned (.tuple #[iv RA5 (repC cs ls fn on).length Rc5 B m d s, .int .i64 0]); rw [← HN5.out]; rfl, HRZ.out⟩⟩, HFZ.out⟩
  · have HFin := Lib.hid (show repE cs ins s fr od nw ls = 1 from by
      unfold repE
      rw [HIL.out, HLL.out, if_neg hg])
    have hor : validI (m : Int) cs ins s = false ∨ (validI (m : Int) cs ins s = true ∧ ls.all (colB (m : Int)) = false) ∨ ((validI (m : Int) cs ins s = true ∧ ls.all (colB (m : Int)) = true) ∧ ¬ (ln : Int) = nw) := by
      cases g1 : validI (m : Int) cs ins s with
      | false => exact .inl rfl
      | true =>
        cases g2 : ls.all (colB (m : Int)) with
        | false => exact .inr (.inl ⟨rfl, rfl⟩)
        | true => exact .inr (.inr ⟨⟨rfl, rfl⟩, fun e => hg ⟨⟨g1, g2⟩, e⟩⟩)
    clear hg
    rcases hor with g1 | ⟨g1, g2⟩ | ⟨⟨g1, g2⟩, g3⟩
    · rw [g1] at HVA
      clear g1
      go_enter Try.func19, Try.ntmps19
      go_wp2_with (go_at_call 11; refine (HVA.out _ (RA.out.fut HWW.out) (RB.out.fut HWW.out)).mono ?_; rintro e w1 ⟨rfl, hb1⟩; obtain ⟨dd, oo, rfl⟩ := fut_of hb1; clear hb1)
      have HCZ := Lib.hid ((HCA.out dd oo).sets (.slice none 0 0) (.slice none 0 0) (.int .i64 0))
      have HFZ := Lib.hid (sets_fut (b := w.heap.size + 1 + 1) (HWW.out.trans (Fut.fut _ dd oo)) (by omega) (.slice none 0 0) (.slice none 0 0) (.int .i64 0))
      refine bodyPost_ret (res_cell2 rep_res _ _ (w.heap.size + 1 + 1) _ _ _ _ rfl HCZ.out Try.underlying25 rfl (by kernel_rfl)) rfl ?_
      rw [HFin.out]
      exact ⟨⟨fun _ => rfl, fun h => absurd h (by decide)⟩, HFZ.out⟩
    · rw [g1] at HVA
      rw [g2] at HVC
      clear g1 g2
      go_enter Try.func19, Try.ntmps19
      go_wp2_with (first | (go_at_call 11; refine (HVA.out _ (RA.out.fut HWW.out) (RB.out.fut HWW.out)).mono ?_; rintro e w1 ⟨rfl, hb1⟩; obtain ⟨dd, oo, rfl⟩ := fut_of hb1; clear hb1) | (go_at_call 25; refine (HVC.out _ (RL.out.fut (HWW.out.trans (Fut.fut _ _ _)))).mono ?_; rintro e w1 ⟨rfl, hb1⟩; obtain ⟨d2, o2, rfl⟩ := fut_of (Fut.trans (Fut.fut _ _ _) hb1); clear hb1))
      have HCZ := Lib.hid ((HCA.out d2 o2).sets (.slice none 0 0) (.slice none 0 0) (.int .i64 0))
      have HFZ := Lib.hid (sets_fut (b := w.heap.size + 1 + 1) (HWW.out.trans (Fut.fut _ d2 o2)) (by omega) (.slice none 0 0) (.slice none 0 0) (.int .i64 0))
      refine bodyPost_ret (res_cell2 rep_res _ _ (w.heap.size + 1 + 1) _ _ _ _ rfl HCZ.out Try.underlying25 rfl (by kernel_rfl)) rfl ?_
      rw [HFin.out]
      exact ⟨⟨fun _ => rfl, fun h => absurd h (by decide)⟩, HFZ.out⟩
    · rw [g1] at HVA
      rw [g2] at HVC
      obtain ⟨g3a, g3b, g3c⟩ := cmpF_no g3
      clear g1 g2 g3
      go_enter Try.func19, Try.ntmps19
      go_wp2_with (first | (go_at_call 11; refine (HVA.out _ (RA.out.fut HWW.out) (RB.out.fut HWW.out)).mono ?_; rintro e w1 ⟨rfl, hb1⟩; obtain ⟨dd, oo, rfl⟩ := fut_of hb1; clear hb1) | (go_at_call 25; refine (HVC.out _ (RL.out.fut (HWW.out.trans (Fut.fut _ _ _)))).mono ?_; rintro e w1 ⟨rfl, hb1⟩; obtain ⟨d2, o2, rfl⟩ := fut_of (Fut.trans (Fut.fut _ _ _) hb1); clear hb1))
      have HCZ := Lib.hid ((HCA.out d2 o2).sets (.slice none 0 0) (.slice none 0 0) (.int .i64 0))
      have HFZ := Lib.hid (sets_fut (b := w.heap.size + 1 + 1) (HWW.out.trans (Fut.fut _ d2 o2)) (by omega) (.slice none 0 0) (.slice none 0 0) (.int .i64 0))
      refine bodyPost_ret (res_cell2 rep_res _ _ (w.heap.size + 1 + 1) _ _ _ _ rfl HCZ.out Try.underlying25 rfl (by kernel_rfl)) rfl ?_
      rw [HFin.out]
      exact ⟨⟨fun _ => rfl, fun h => absurd h (by decide)⟩, HFZ.out⟩
end Go.Proofs.Ytagmpbgidooibaa
