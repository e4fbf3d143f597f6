/-
  The law of Replace, walked: it returns true and turns nothing that was there.
-/
import Derived.Test.YtagmpbgidooibaaC23
import Derived.Test.YtagmpbgidooibaaC26
namespace Go.Proofs.Ytagmpbgidooibaa
open Go.RowKit Go.Deep
attribute [local go_sem] Oper.lit Oper.litS fut_fut fut_drew World.cell?_alloc_some
attribute [local go_sem] fut_base_drew
theorem fewI_len {cs : List CC} {ins : List Int} (h : fewI cs ins = true) : cs.length ≤ 70 ∧ ins.length ≤ 20 := by
  simp only [fewI, Bool.and_eq_true, decide_eq_true_eq] at h
  exact h.1
theorem repE_zero {cs ls : List CC} {ins : List Int} {s fr od nw : Int} (h : repE cs ins s fr od nw ls = 0) : (validI ins.length cs ins s = true ∧ ls.all (colB ins.length) = true) ∧ 0 ≤ fr ∧ 0 ≤ od ∧ fr + od ≤ cs.length ∧ (cs.length : Int) - od + ls.length ≤ 60 := by
  unfold repE at h
  split at h
  · rename_i h1
    refine ⟨h1.1, ?_⟩
    unfold repN at h
    split at h
    · omega
    · split at h
      · omega
      · omega
  · omega
theorem rep_valid {cs ls : List CC} {ins : List Int} {s fr od nw : Int} (h : repE cs ins s fr od nw ls = 0) : validI ins.length (repC cs ls fr.toNat od.toNat) ins s = true := by
  obtain ⟨⟨hv, hl⟩, h1, h2, h3, h4⟩ := repE_zero h
  rw [validI_iff] at hv ⊢
  obtain ⟨⟨⟨⟨⟨v1, v2⟩, v3⟩, v4⟩, v5⟩, v6⟩ := hv
  refine ⟨⟨⟨⟨⟨v1, ?_⟩, v3⟩, v4⟩, v5⟩, ?_⟩
  · unfold repC
    simp only [List.length_append, List.length_take, List.length_drop]
    omega
  · rw [List.all_eq_true] at hl v6 ⊢
    intro c hc
    rcases mem_rep hc with hc | hc
    · exact v6 c hc
    · exact hl c hc
theorem repC_len {cs ls : List CC} {ins : List Int} {s fr od nw : Int} (h : repE cs ins s fr od nw ls = 0) : (repC cs ls fr.toNat od.toNat).length ≤ 60 := by
  have := rep_valid h
  rw [validI_iff] at this
  exact this.1.1.1.1.2
set_option maxHeartbeats 6400000 in
set_option maxRecDepth 4000 in
theorem law_crep (A : Option Addr) (n c : Nat) (B : Option Addr) (m d : Nat) (s fr od nw : Int) (L : Option Addr) (ln lc : Nat) (cs ls : List CC) (ins : List Int) (w : World)
    (hl : cs.length = n) (hn : n ≤ maxLen) (hil : ins.length = m) (hm : m ≤ maxLen) (hll : ls.length = ln) (hln : ln ≤ maxLen) (hnc : n ≤ c) (hc : c ≤ maxLen) (hA : (n = 0 ∧ c = 0) ∨ ∃ b o, A = some ⟨b, o, none⟩) (hL : L = none → ln = 0 ∧ lc = 0)
    (hR : RdC w A cs) (hI : Rd1 w B (.int .i64 ·) ins) (hRL : RdC w L ls) :
    Calls Try.prog 6 #[iv A n c B m d s, .agg #[.int .i64 fr, .int .i64 od, .int .i64 nw], .slice L ln lc] w fun e w' => e = .returned (.bool true) ∧ Below w.heap.size w w' := by
  have HW := Lib.hid (show Fut w ((w.alloc (.cells #[.slice A n c, .slice B m d, .int .i64 s] 25)).alloc (.cells #[.int .i64 fr, .int .i64 od, .int .i64 nw] 45)) from ((Fut.refl w).alloc _).alloc _)
  have q0 : ∀ dd os, (fut ((w.alloc (.cells #[.slice A n c, .slice B m d, .int .i64 s] 25)).alloc (.cells #[.int .i64 fr, .int .i64 od, .int .i64 nw] 45)) dd os).cell? ⟨w.heap.size, 0, none⟩ = some (.slice A n c) := cell_fut (by (repeat (first | exact (cell_al_new _ _ _ _ _ _ (by first | rfl | (simp only [World.size_alloc]))).trans rfl | refine (cell_al_old _ _ _ (by first | omega | (simp only [World.size_alloc]; omega))).trans ?_)))
  have q1 : ∀ dd os, (fut ((w.alloc (.cells #[.slice A n c, .slice B m d, .int .i64 s] 25)).alloc (.cells #[.int .i64 fr, .int .i64 od, .int .i64 nw] 45)) dd os).cell? ⟨w.heap.size, 1, none⟩ = some (.slice B m d) := cell_fut (by (repeat (first | exact (cell_al_new _ _ _ _ _ _ (by first | rfl | (simp only [World.size_alloc]))).trans rfl | refine (cell_al_old _ _ _ (by first | omega | (simp only [World.size_alloc]; omega))).trans ?_)))
  have q2 : ∀ dd os, (fut ((w.alloc (.cells #[.slice A n c, .slice B m d, .int .i64 s] 25)).alloc (.cells #[.int .i64 fr, .int .i64 od, .int .i64 nw] 45)) dd os).cell? ⟨w.heap.size, 2, none⟩ = some (.int .i64 s) := cell_fut (by (repeat (first | exact (cell_al_new _ _ _ _ _ _ (by first | rfl | (simp only [World.size_alloc]))).trans rfl | refine (cell_al_old _ _ _ (by first | omega | (simp only [World.size_alloc]; omega))).trans ?_)))
  have q3 : ∀ dd os, (fut ((w.alloc (.cells #[.slice A n c, .slice B m d, .int .i64 s] 25)).alloc (.cells #[.int .i64 fr, .int .i64 od, .int .i64 nw] 45)) dd os).cell? ⟨w.heap.size + 1, 0, none⟩ = some (.int .i64 fr) := cell_fut (by (repeat (first | exact (cell_al_new _ _ _ _ _ _ (by first | rfl | (simp only [World.size_alloc]))).trans rfl | refine (cell_al_old _ _ _ (by first | omega | (simp only [World.size_alloc]; omega))).trans ?_)))
  have q4 : ∀ dd os, (fut ((w.alloc (.cells #[.slice A n c, .slice B m d, .int .i64 s] 25)).alloc (.cells #[.int .i64 fr, .int .i64 od, .int .i64 nw] 45)) dd os).cell? ⟨w.heap.size + 1, 1, none⟩ = some (.int .i64 od) := cell_fut (by (repeat (first | exact (cell_al_new _ _ _ _ _ _ (by first | rfl | (simp only [World.size_alloc]))).trans rfl | refine (cell_al_old _ _ _ (by first | omega | (simp only [World.size_alloc]; omega))).trans ?_)))
  have q5 : ∀ dd os, (fut ((w.alloc (.cells #[.slice A n c, .slice B m d, .int .i64 s] 25)).alloc (.cells #[.int .i64 fr, .int .i64 od, .int .i64 nw] 45)) dd os).cell? ⟨w.heap.size + 1, 2, none⟩ = some (.int .i64 nw) := cell_fut (by (repeat (first | exact (cell_al_new _ _ _ _ _ _ (by first | rfl | (simp only [World.size_alloc]))).trans rfl | refine (cell_al_old _ _ _ (by first | omega | (simp only [World.size_alloc]; omega))).trans ?_)))
  have HF1 := Lib.hid (fun w' h => few_any A n c cs B m d ins s w' hl hn hil hm h)
  have HF2 := Lib.hid (fun w' h => few_any L ln lc ls none 0 0 [] 0 w' hll hln rfl (by decide) h)
  have HR := Lib.hid (hR.fut HW.out)
  have HI := Lib.hid (hI.fut HW.out)
  have HRL := Lib.hid (hRL.fut HW.out)
  have HLS := Lib.hid (And.intro hl (And.intro hil (And.intro hll (And.intro hnc (And.intro hc (And.intro hA hL))))))
  clear hl hn hil hm hll hln hnc hc hA hL hR hI hRL
  have e37 : ∀ z : Int, (z == z) = true := fun z => by simp
  by_cases hz : fewI cs ins = true
  · rw [hz] at HF1
    by_cases hp : fewI ls [] = true
    · rw [hp] at HF2
      obtain ⟨hzn, hzm⟩ := fewI_len hz
      obtain ⟨hp1, _⟩ := fewI_len hp
      have HLS2 := HLS.out
      rw [HLS2.1] at hzn
      rw [HLS2.2.1] at hzm
      rw [HLS2.2.2.1] at hp1
      clear hz hp HLS2
      have HOF := Lib.hid (fun w' a1 a2 a3 => replace_any A n c B m d s fr od nw L ln lc cs ls ins w' HLS.out.1 (by omega) HLS.out.2.1 (by omega) HLS.out.2.2.1 (by omega) HLS.out.2.2.2.1 HLS.out.2.2.2.2.1 HLS.out.2.2.2.2.2.1 HLS.out.2.2.2.2.2.2 a1 a2 a3)
      have HRF := Lib.hid (fun w' a1 a2 a3 => rReplace_any A n c B m d s fr od nw L ln lc cs ls ins w' HLS.out.1 (by omega) HLS.out.2.1 (by omega) HLS.out.2.2.1 (by omega) HLS.out.2.2.2.1 HLS.out.2.2.2.2.1 HLS.out.2.2.2.2.2.1 HLS.out.2.2.2.2.2.2 a1 a2 a3)
      by_cases hE : repE cs ins s fr od nw ls = 0
      · have HE := Lib.hid hE
        clear hE
        obtain ⟨N5, hN5⟩ : ∃ q, q = (repC cs ls fr.toNat od.toNat).length := ⟨_, rfl⟩
        have HN5 := Lib.hid hN5
        clear hN5
        have hN60 : N5 ≤ 60 := by rw [HN5.out]; exact repC_len HE.out
        go_enter Try.func6, Try.ntmps6
        go_wp2_with (first | (go_at_call 9; refine (HF2.out _ (HRL.out.fut (Fut.fut _ dd oo))).mono ?_; rintro e w1 ⟨rfl, hb1⟩; obtain ⟨d2, o2, rfl⟩ := fut_of (Fut.trans (Fut.fut _ _ _) hb1); clear hb1) | (go_at_call 9; refine (HF1.out _ HR.out).mono ?_; rintro e w1 ⟨rfl, hb1⟩; obtain ⟨dd, oo, rfl⟩ := fut_of hb1; clear hb1))
        refine (HOF.out _ (HR.out.fut (Fut.fut _ _ _)) (HI.out.fut (Fut.fut _ _ _)) (HRL.out.fut (Fut.fut _ _ _))).mono ?_
        rintro e w3 ⟨hr, hb3⟩
        obtain ⟨RA, Rc, rfl, hrd⟩ := hr.2 HE.out
        rw [← HN5.out]
        obtain ⟨d3, o3, rfl⟩ := fut_of (show Fut ((w.alloc (.cells #[.slice A n c, .slice B m d, .int .i64 s] 25)).alloc (.cells #[.int .i64 fr, .int .i64 od, .int .i64 nw] 45)) w3 from (Fut.fut _ _ _).trans hb3)
        have HA3 := Lib.hid (show Fut ((w.alloc (.cells #[.slice A n c, .slice B m d, .int .i64 s] 25)).alloc (.cells #[.int .i64 fr, .int .i64 od, .int .i64 nw] 45)) ((fut ((w.alloc (.cells #[.slice A n c, .slice B m d, .int .i64 s] 25)).alloc (.cells #[.int .i64 fr, .int .i64 od, .int .i64 nw] 45)) d3 o3).alloc (.cells #[.slice RA N5 Rc, .slice B m d, .int .i64 s] 25)) from (Fut.fut _ _ _).alloc _)
        have HRA := Lib.hid (hrd.fut ((Fut.refl (fut ((w.alloc (.cells #[.slice A n c, .slice B m d, .int .i64 s] 25)).alloc (.cells #[.int .i64 fr, .int .i64 od, .int .i64 nw] 45)) d3 o3)).alloc (.cells #[.slice RA N5 Rc, .slice B m d, .int .i64 s] 25)))
        have HIA := Lib.hid (show CelI ((fut ((w.alloc (.cells #[.slice A n c, .slice B m d, .int .i64 s] 25)).alloc (.cells #[.int .i64 fr, .int .i64 od, .int .i64 nw] 45)) d3 o3).alloc (.cells #[.slice RA N5 Rc, .slice B m d, .int .i64 s] 25)) (fut ((w.alloc (.cells #[.slice A n c, .slice B m d, .int .i64 s] 25)).alloc (.cells #[.int .i64 fr, .int .i64 od, .int .i64 nw] 45)) d3 o3).heap.size (.slice RA N5 Rc) (.slice B m d) (.int .i64 s) from heap_new' _ _ _ rfl)
        clear hr hrd hb3
        go_wp2_with fail
        refine (HRF.out _ (HR.out.fut HA3.out) (HI.out.fut HA3.out) (HRL.out.fut HA3.out)).mono ?_
        rintro e w6 ⟨hr, hb6⟩
        obtain ⟨RB, Rd, rfl, hrd2⟩ := hr.2 HE.out
        rw [← HN5.out]
        have HA6 := Lib.hid (show Fut ((w.alloc (.cells #[.slice A n c, .slice B m d, .int .i64 s] 25)).alloc (.cells #[.int .i64 fr, .int .i64 od, .int .i64 nw] 45)) (w6.alloc (.cells #[.slice RB N5 Rd, .slice B m d, .int .i64 s] 25)) from (HA3.out.trans hb6).alloc _)
        have f6 : Fut ((fut ((w.alloc (.cells #[.slice A n c, .slice B m d, .int .i64 s] 25)).alloc (.cells #[.int .i64 fr, .int .i64 od, .int .i64 nw] 45)) d3 o3).alloc (.cells #[.slice RA N5 Rc, .slice B m d, .int .i64 s] 25)) (w6.alloc (.cells #[.slice RB N5 Rd, .slice B m d, .int .i64 s] 25)) := Fut.trans hb6 ((Fut.refl w6).alloc _)
        have HIB := Lib.hid (show CelI (w6.alloc (.cells #[.slice RB N5 Rd, .slice B m d, .int .i64 s] 25)) w6.heap.size (.slice RB N5 Rd) (.slice B m d) (.int .i64 s) from heap_new' _ _ _ rfl)
        have HIA6 := Lib.hid (HIA.out.fut f6)
        have HRA6 := Lib.hid (HRA.out.fut f6)
        have HRB6 := Lib.hid (hrd2.fut ((Fut.refl w6).alloc (.cells #[.slice RB N5 Rd, .slice B m d, .int .i64 s] 25)))
        have HVAL := Lib.hid (rep_valid HE.out)
        clear hr hb6 f6 hrd2 HIA HRA
        go_wp2_with fail
        generalize w6.alloc (.cells #[.slice RB N5 Rd, .slice B m d, .int .i64 s] 25) = w7 at *
        generalize hwn : (fut ((w.alloc (.cells #[.slice A n c, .slice B m d, .int .i64 s] 25)).alloc (.cells #[.int .i64 fr, .int .i64 od, .int .i64 nw] 45)) d3 o3).heap.size = wn at *
        clear hwn
        refine (awake_any w7).mono ?_
        rintro e w8 ⟨rfl, hb8⟩
        have f8 : Fut w7 w8 := hb8
        have i0 := (HIA6.out.fut f8).c0
        have i1 := (HIA6.out.fut f8).c1
        have i2 := (HIA6.out.fut f8).c2
        have j0 := (HIB.out.fut f8).c0
        have j1 := (HIB.out.fut f8).c1
        have j2 := (HIB.out.fut f8).c2
        clear hb8
        go_wp2_with fail
        refine (same_any RA N5 Rc B m d s RB Rd B d (repC cs ls fr.toNat od.toNat) (repC cs ls fr.toNat od.toNat) ins w8 HN5.out.symm (by unfold maxLen; omega) HLS.out.2.1 (by unfold maxLen; omega) rfl (HRA6.out.fut f8) (HRB6.out.fut f8) ((HI.out.fut HA6.out).fut f8) ((HI.out.fut HA6.out).fut f8)).mono ?_
        rintro e w9 ⟨rfl, hb9⟩
        have f9 : Fut w7 w9 := f8.trans hb9
        have i0 := (HIA6.out.fut f9).c0
        have i1 := (HIA6.out.fut f9).c1
        have i2 := (HIA6.out.fut f9).c2
        obtain ⟨d9, o9, rfl⟩ := fut_of (show Fut ((w.alloc (.cells #[.slice A n c, .slice B m d, .int .i64 s] 25)).alloc (.cells #[.int .i64 fr, .int .i64 od, .int .i64 nw] 45)) w9 from HA6.out.trans f9)
        clear hb9 j0 j1 j2 f8
        go_wp2_with fail
        refine (valid_any (m : Int) RA N5 Rc (repC cs ls fr.toNat od.toNat) B m d ins s _ HN5.out.symm (by unfold maxLen; omega) (HRA6.out.fut f9) HLS.out.2.1 (by unfold maxLen; omega) ((HI.out.fut HA6.out).fut f9)).mono ?_
        rintro e w10 ⟨rfl, hb10⟩
        have hvv := HVAL.out
        rw [HLS.out.2.1] at hvv
        rw [hvv]
        have HB10 := Lib.hid (show Fut w w10 from (HW.out.trans (HA6.out.trans f9)).trans hb10)
        clear hb10 hvv i0 i1 i2 f9
        go_wp2_with fail
        go_ret
        exact ⟨rfl, HB10.out⟩
      · have HE := Lib.hid hE
        have hEn : (repE cs ins s fr od nw ls = 0) = False := eq_false hE
        clear hE
        go_enter Try.func6, Try.ntmps6
        go_wp2_with (first | (go_at_call 9; refine (HF2.out _ (HRL.out.fut (Fut.fut _ dd oo))).mono ?_; rintro e w1 ⟨rfl, hb1⟩; obtain ⟨d2, o2, rfl⟩ := fut_of (Fut.trans (Fut.fut _ _ _) hb1); clear hb1) | (go_at_call 9; refine (HF1.out _ HR.out).mono ?_; rintro e w1 ⟨rfl, hb1⟩; obtain ⟨dd, oo, rfl⟩ := fut_of hb1; clear hb1))
        refine (HOF.out _ (HR.out.fut (Fut.fut _ _ _)) (HI.out.fut (Fut.fut _ _ _)) (HRL.out.fut (Fut.fut _ _ _))).mono ?_
        rintro e w3 ⟨hr, hb3⟩
        obtain rfl := hr.1 HE.out
        obtain ⟨d3, o3, rfl⟩ := fut_of (show Fut ((w.alloc (.cells #[.slice A n c, .slice B m d, .int .i64 s] 25)).alloc (.cells #[.int .i64 fr, .int .i64 od, .int .i64 nw] 45)) w3 from (Fut.fut _ _ _).trans hb3)
        clear hr hb3
        go_wp2_with fail
        refine (HRF.out _ (HR.out.fut ((Fut.fut _ _ _).alloc _)) (HI.out.fut ((Fut.fut _ _ _).alloc _)) (HRL.out.fut ((Fut.fut _ _ _).alloc _))).mono ?_
        rintro e w6 ⟨hr, hb6⟩
        obtain rfl := hr.1 HE.out
        obtain ⟨m1, m2, m3⟩ := cmpF_no HE.out
        have HIA := Lib.hid (show CelI ((fut ((w.alloc (.cells #[.slice A n c, .slice B m d, .int .i64 s] 25)).alloc (.cells #[.int .i64 fr, .int .i64 od, .int .i64 nw] 45)) d3 o3).alloc (.cells #[.slice none 0 0, .slice none 0 0, .int .i64 0] 25)) (fut ((w.alloc (.cells #[.slice A n c, .slice B m d, .int .i64 s] 25)).alloc (.cells #[.int .i64 fr, .int .i64 od, .int .i64 nw] 45)) d3 o3).heap.size (.slice none 0 0) (.slice none 0 0) (.int .i64 0) from heap_new' _ _ _ rfl)
        have f6 : Fut ((fut ((w.alloc (.cells #[.slice A n c, .slice B m d, .int .i64 s] 25)).alloc (.cells #[.int .i64 fr, .int .i64 od, .int .i64 nw] 45)) d3 o3).alloc (.cells #[.slice none 0 0, .slice none 0 0, .int .i64 0] 25)) (w6.alloc (.cells #[.slice none 0 0, .slice none 0 0, .int .i64 0] 25)) := Fut.trans hb6 ((Fut.refl w6).alloc _)
        have HA6 := Lib.hid (show Fut ((w.alloc (.cells #[.slice A n c, .slice B m d, .int .i64 s] 25)).alloc (.cells #[.int .i64 fr, .int .i64 od, .int .i64 nw] 45)) (w6.alloc (.cells #[.slice none 0 0, .slice none 0 0, .int .i64 0] 25)) from ((Fut.fut _ _ _).alloc _).trans f6)
        have HIB := Lib.hid (show CelI (w6.alloc (.cells #[.slice none 0 0, .slice none 0 0, .int .i64 0] 25)) w6.heap.size (.slice none 0 0) (.slice none 0 0) (.int .i64 0) from heap_new' _ _ _ rfl)
        have HIA6 := Lib.hid (HIA.out.fut f6)
        clear hr hb6 f6 HIA
        go_wp2_with fail
        generalize w6.alloc (.cells #[.slice none 0 0, .slice none 0 0, .int .i64 0] 25) = w7 at *
        generalize hwn : (fut ((w.alloc (.cells #[.slice A n c, .slice B m d, .int .i64 s] 25)).alloc (.cells #[.int .i64 fr, .int .i64 od, .int .i64 nw] 45)) d3 o3).heap.size = wn at *
        clear hwn
        refine (awake_any w7).mono ?_
        rintro e w8 ⟨rfl, hb8⟩
        have f8 : Fut w7 w8 := hb8
        have i0 := (HIA6.out.fut f8).c0
        have i1 := (HIA6.out.fut f8).c1
        have i2 := (HIA6.out.fut f8).c2
        have j0 := (HIB.out.fut f8).c0
        have j1 := (HIB.out.fut f8).c1
        have j2 := (HIB.out.fut f8).c2
        clear hb8
        go_wp2_with fail
        refine (same_any none 0 0 none 0 0 0 none 0 none 0 [] [] [] w8 rfl (by decide) rfl (by decide) rfl ⟨RdS.nil, fun _ h => by simp at h⟩ ⟨RdS.nil, fun _ h => by simp at h⟩ Rd1.nil Rd1.nil).mono ?_
        rintro e w9 ⟨rfl, hb9⟩
        have HB9 := Lib.hid (show Fut w w9 from (HW.out.trans HA6.out).trans (f8.trans hb9))
        clear hb9 f8
        go_wp2_with fail
        go_ret
        exact ⟨rfl, HB9.out⟩
    · rw [bnot hp] at HF2
      go_enter Try.func6, Try.ntmps6
      go_wp2_with (first | (go_at_call 9; refine (HF2.out _ (HRL.out.fut (Fut.fut _ dd oo))).mono ?_; rintro e w1 ⟨rfl, hb1⟩; obtain ⟨d2, o2, rfl⟩ := fut_of (Fut.trans (Fut.fut _ _ _) hb1); clear hb1) | (go_at_call 9; refine (HF1.out _ HR.out).mono ?_; rintro e w1 ⟨rfl, hb1⟩; obtain ⟨dd, oo, rfl⟩ := fut_of hb1; clear hb1) | (go_at_call 10; refine (awake_any _).mono ?_; rintro e w1 ⟨rfl, hb1⟩; have HB := Lib.hid hb1; clear hb1))
      go_ret
      exact ⟨rfl, HW.out.trans ((Fut.fut _ _ _).trans HB.out)⟩
  · rw [bnot hz] at HF1
    go_enter Try.func6, Try.ntmps6
    go_wp2_with (first | (go_at_call 9; refine (HF1.out _ HR.out).mono ?_; rintro e w1 ⟨rfl, hb1⟩; obtain ⟨dd, oo, rfl⟩ := fut_of hb1; clear hb1) | (go_at_call 10; refine (awake_any _).mono ?_; rintro e w1 ⟨rfl, hb1⟩; have HB := Lib.hid hb1; clear hb1))
    go_ret
    exact ⟨rfl, HW.out.trans ((Fut.fut _ _ _).trans HB.out)⟩
end Go.Proofs.Ytagmpbgidooibaa
