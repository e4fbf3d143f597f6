/-
  The law of confusions, walked: it returns true and turns nothing that was there.
-/
import Derived.Test.YtagmpbgidooibaaC23
import Derived.Test.YtagmpbgidooibaaCp
namespace Go.Proofs.Ytagmpbgidooibaa
open Go.RowKit Go.Deep
attribute [local go_sem] Oper.lit Oper.litS fut_fut fut_drew World.cell?_alloc_some
attribute [local go_sem] fut_base_drew
theorem fewZ_len' {ks : List Int} {xs : List XX} (h : fewZ ks xs = true) : ks.length ≤ 70 ∧ xs.length ≤ 70 := by
  simp only [fewZ, Bool.and_eq_true, decide_eq_true_eq] at h
  exact h.1
theorem fewP_len' {ins del : List Int} {rep : List RR} (h : fewP ins del rep = true) : ins.length ≤ 20 ∧ del.length ≤ 20 ∧ rep.length ≤ 20 := by
  simp only [fewP, Bool.and_eq_true, decide_eq_true_eq] at h
  exact ⟨h.1.1.1, h.1.1.2, h.1.2⟩
theorem of_nil {ks : List Int} {cs : List XX} {ins del : List Int} {rep : List RR} {s u : Int} (h : ofE ks cs ins del rep s u = 0) : ofE ks [] ins del rep s u = 0 := by
  obtain ⟨hp, _, hok, h60⟩ := ofE_zero h
  have hg := ofE_good (cs := []) hp (.inl rfl) (fun i hi => by
    have h1 := hok i hi
    rw [cf_none (by simp)]
    simp only [okT, Bool.and_eq_true, decide_eq_true_eq] at h1 ⊢
    exact ⟨h1.1, by simp⟩)
  rw [hg, if_neg (by omega)]
theorem of_key {ks : List Int} {cs : List XX} {del : List Int} {rep : List RR} {u : Int} {T j : Nat} {cols : List CC} (hk : cols.map key = ofK ks cs del rep u T) (hj : j < ks.length) : ∃ c, cols[j]? = some c ∧ c.kd = gi ks j ∧ c.r = (List.range T).map (rowF (gi ks j) rep (cf cs j)) ∧ c.d = delF (gi ks j) del u := by
  have hlen : cols.length = ks.length := by
    have := congrArg List.length hk
    simpa [ofK] using this
  have hi : j < cols.length := by omega
  have h1 : (cols.map key)[j]? = some (key cols[j]) := by rw [List.getElem?_map, List.getElem?_eq_getElem hi]; rfl
  rw [hk, ofK, List.getElem?_map, List.getElem?_range hj] at h1
  have h2 := Option.some.inj h1
  simp only [keyT, key, Prod.mk.injEq] at h2
  obtain ⟨e1, e2, e3⟩ := h2
  exact ⟨cols[j], List.getElem?_eq_getElem hi, e1.symm, e2.symm, e3.symm⟩
theorem wpG_two {R : World → World → Prop} {P : Program} {ops : Array Oper} {Q : Exit → Act → World → Prop} {b : World} {i j : Nat} {o p : Oper} {r s : Sched} {a : Act} {w : World} (ho : ops[i]? = some o) (hp : ops[j]? = some p)
    (h : ∀ K : Act → World → Prop, (∀ a w', (isLast ops i = true ∨ R w w') → wpG R P ops Q r b a w' → K a w') → if Region.wanted o (yielded ops a.tmps) then o.wp P a w K Q else K (a.put o.dst undef) w)
    (k : ∀ K : Act → World → Prop, (∀ a w', (isLast ops j = true ∨ R w w') → wpG R P ops Q s b a w' → K a w') → if Region.wanted p (yielded ops a.tmps) then p.wp P a w K Q else K (a.put p.dst undef) w) : wpG R P ops Q (.two i r j s) b a w :=
  ⟨b, .inl rfl, heavyG_of ho h, heavyG_of hp k⟩
set_option maxHeartbeats 6400000 in
set_option maxRecDepth 4000 in
theorem law_clower (Z : Option Addr) (n zc : Nat) (X : Option Addr) (m xc : Nat) (ks : List Int) (xs : List XX) (A1 : Option Addr) (n1 c1 : Nat) (A2 : Option Addr) (n2 c2 : Nat) (A3 : Option Addr) (n3 c3 : Nat) (s u : Int) (ins del : List Int) (rep : List RR) (w : World)
    (hkl : ks.length = n) (hn : n ≤ maxLen) (hxl : xs.length = m) (hm : m ≤ maxLen) (h1 : ins.length = n1) (h2 : del.length = n2) (h3 : rep.length = n3) (b1 : n1 ≤ maxLen) (b2 : n2 ≤ maxLen) (b3 : n3 ≤ maxLen)
    (hZ : Rd1 w Z (.int .i64 ·) ks) (hX : RdX w X xs) (r1 : Rd1 w A1 (.int .i64 ·) ins) (r2 : Rd1 w A2 (.int .i64 ·) del) (r3 : RdR w A3 rep) :
    Calls Try.prog 8 #[tv Z n zc X m xc, pv A1 n1 c1 A2 n2 c2 A3 n3 c3 s u] w fun e w' => e = .returned (.bool true) ∧ Below w.heap.size w w' := by
  have HW := Lib.hid (show Fut w ((w.alloc (.cells #[.slice Z n zc, .slice X m xc] 31)).alloc (.cells #[.slice A1 n1 c1, .slice A2 n2 c2, .slice A3 n3 c3, .int .i64 s, .int .i64 u] 34)) from ((Fut.refl w).alloc _).alloc _)
  have q0 : ∀ dd os, (fut ((w.alloc (.cells #[.slice Z n zc, .slice X m xc] 31)).alloc (.cells #[.slice A1 n1 c1, .slice A2 n2 c2, .slice A3 n3 c3, .int .i64 s, .int .i64 u] 34)) dd os).cell? ⟨w.heap.size, 0, none⟩ = some (.slice Z n zc) := cell_fut (by (repeat (first | exact (cell_al_new _ _ _ _ _ _ (by first | rfl | (simp only [World.size_alloc]))).trans rfl | refine (cell_al_old _ _ _ (by first | omega | (simp only [World.size_alloc]; omega))).trans ?_)))
  have q1 : ∀ dd os, (fut ((w.alloc (.cells #[.slice Z n zc, .slice X m xc] 31)).alloc (.cells #[.slice A1 n1 c1, .slice A2 n2 c2, .slice A3 n3 c3, .int .i64 s, .int .i64 u] 34)) dd os).cell? ⟨w.heap.size, 1, none⟩ = some (.slice X m xc) := cell_fut (by (repeat (first | exact (cell_al_new _ _ _ _ _ _ (by first | rfl | (simp only [World.size_alloc]))).trans rfl | refine (cell_al_old _ _ _ (by first | omega | (simp only [World.size_alloc]; omega))).trans ?_)))
  have q2 : ∀ dd os, (fut ((w.alloc (.cells #[.slice Z n zc, .slice X m xc] 31)).alloc (.cells #[.slice A1 n1 c1, .slice A2 n2 c2, .slice A3 n3 c3, .int .i64 s, .int .i64 u] 34)) dd os).cell? ⟨w.heap.size + 1, 0, none⟩ = some (.slice A1 n1 c1) := cell_fut (by (repeat (first | exact (cell_al_new _ _ _ _ _ _ (by first | rfl | (simp only [World.size_alloc]))).trans rfl | refine (cell_al_old _ _ _ (by first | omega | (simp only [World.size_alloc]; omega))).trans ?_)))
  have q3 : ∀ dd os, (fut ((w.alloc (.cells #[.slice Z n zc, .slice X m xc] 31)).alloc (.cells #[.slice A1 n1 c1, .slice A2 n2 c2, .slice A3 n3 c3, .int .i64 s, .int .i64 u] 34)) dd os).cell? ⟨w.heap.size + 1, 1, none⟩ = some (.slice A2 n2 c2) := cell_fut (by (repeat (first | exact (cell_al_new _ _ _ _ _ _ (by first | rfl | (simp only [World.size_alloc]))).trans rfl | refine (cell_al_old _ _ _ (by first | omega | (simp only [World.size_alloc]; omega))).trans ?_)))
  have q4 : ∀ dd os, (fut ((w.alloc (.cells #[.slice Z n zc, .slice X m xc] 31)).alloc (.cells #[.slice A1 n1 c1, .slice A2 n2 c2, .slice A3 n3 c3, .int .i64 s, .int .i64 u] 34)) dd os).cell? ⟨w.heap.size + 1, 2, none⟩ = some (.slice A3 n3 c3) := cell_fut (by (repeat (first | exact (cell_al_new _ _ _ _ _ _ (by first | rfl | (simp only [World.size_alloc]))).trans rfl | refine (cell_al_old _ _ _ (by first | omega | (simp only [World.size_alloc]; omega))).trans ?_)))
  have q5 : ∀ dd os, (fut ((w.alloc (.cells #[.slice Z n zc, .slice X m xc] 31)).alloc (.cells #[.slice A1 n1 c1, .slice A2 n2 c2, .slice A3 n3 c3, .int .i64 s, .int .i64 u] 34)) dd os).cell? ⟨w.heap.size + 1, 3, none⟩ = some (.int .i64 s) := cell_fut (by (repeat (first | exact (cell_al_new _ _ _ _ _ _ (by first | rfl | (simp only [World.size_alloc]))).trans rfl | refine (cell_al_old _ _ _ (by first | omega | (simp only [World.size_alloc]; omega))).trans ?_)))
  have q6 : ∀ dd os, (fut ((w.alloc (.cells #[.slice Z n zc, .slice X m xc] 31)).alloc (.cells #[.slice A1 n1 c1, .slice A2 n2 c2, .slice A3 n3 c3, .int .i64 s, .int .i64 u] 34)) dd os).cell? ⟨w.heap.size + 1, 4, none⟩ = some (.int .i64 u) := cell_fut (by (repeat (first | exact (cell_al_new _ _ _ _ _ _ (by first | rfl | (simp only [World.size_alloc]))).trans rfl | refine (cell_al_old _ _ _ (by first | omega | (simp only [World.size_alloc]; omega))).trans ?_)))
  have HFZ := Lib.hid (fun w' h => fewZ_any Z n zc ks X m xc xs w' hkl hn hxl hm h)
  have HFP := Lib.hid (fun w' h => fewP_any A1 n1 c1 A2 n2 c2 A3 n3 c3 s u ins del rep w' h1 h2 h3 b1 b2 b3 h)
  have HZ := Lib.hid (hZ.fut HW.out)
  have HX := Lib.hid (hX.fut HW.out)
  have R1 := Lib.hid (r1.fut HW.out)
  have R2 := Lib.hid (r2.fut HW.out)
  have R3 := Lib.hid (r3.fut HW.out)
  have HLS := Lib.hid (And.intro hkl (And.intro hxl (And.intro h1 (And.intro h2 h3))))
  have HBS := Lib.hid (And.intro b2 b3)
  clear hkl hn hxl hm h1 h2 h3 b1 b2 b3 hZ hX r1 r2 r3
  have e37 : ∀ z : Int, (z == z) = true := fun z => by simp
  have e38 : ∀ z : Int, (z != z) = false := fun z => by simp
  by_cases hz : fewZ ks xs = true
  · rw [hz] at HFZ
    by_cases hp : fewP ins del rep = true
    · rw [hp] at HFP
      obtain ⟨hzn, hzm⟩ := fewZ_len' hz
      obtain ⟨hp1, hp2, hp3⟩ := fewP_len' hp
      have HLS2 := HLS.out
      rw [HLS2.1] at hzn
      rw [HLS2.2.1] at hzm
      rw [HLS2.2.2.1] at hp1
      rw [HLS2.2.2.2.1] at hp2
      rw [HLS2.2.2.2.2] at hp3
      clear hz hp HLS2
      have HOF := Lib.hid (fun w' a1 a2 a3 a4 a5 => of_any Z n zc ks X m xc xs A1 n1 c1 A2 n2 c2 A3 n3 c3 s u ins del rep w' HLS.out.1 (by omega) HLS.out.2.1 (by unfold maxLen; omega) HLS.out.2.2.1 HLS.out.2.2.2.1 HLS.out.2.2.2.2 (by omega) HBS.out.1 HBS.out.2 a1 a2 a3 a4 a5)
      have HON := Lib.hid (fun w' a1 a2 a3 a4 a5 => of_any Z n zc ks none 0 0 [] A1 n1 c1 A2 n2 c2 A3 n3 c3 s u ins del rep w' HLS.out.1 (by omega) rfl (by unfold maxLen; omega) HLS.out.2.2.1 HLS.out.2.2.2.1 HLS.out.2.2.2.2 (by omega) HBS.out.1 HBS.out.2 a1 a2 a3 a4 a5)
      have hXN : ∀ w', RdX w' none [] := fun w' => ⟨RdS.nil, fun _ h => by simp at h⟩
      by_cases hE : ofE ks xs ins del rep s u = 0
      · have HE := Lib.hid hE
        have HE2 := Lib.hid (of_nil hE)
        clear hE
        go_enter Try.func8, Try.ntmps8
        go_wp2_with (first | (go_at_call 13; refine (HFZ.out _ HX.out).mono ?_; rintro e w1 ⟨rfl, hb1⟩; obtain ⟨dd, oo, rfl⟩ := fut_of hb1; clear hb1) | (go_at_call 14; refine (HFP.out _ (R3.out.fut (Fut.fut _ _ _))).mono ?_; rintro e w1 ⟨rfl, hb1⟩; obtain ⟨d2, o2, rfl⟩ := fut_of (Fut.trans (Fut.fut _ _ _) hb1); clear hb1))
        refine (HOF.out _ (HZ.out.fut (Fut.fut _ _ _)) (HX.out.fut (Fut.fut _ _ _)) (R1.out.fut (Fut.fut _ _ _)) (R2.out.fut (Fut.fut _ _ _)) (R3.out.fut (Fut.fut _ _ _))).mono ?_
        rintro e w3 ⟨hr, hb3⟩
        obtain ⟨A, c, cols, rfl, hkey, hrd⟩ := hr.2 HE.out
        have HKEY := Lib.hid hkey
        have HRD := Lib.hid hrd
        obtain ⟨d3, o3, rfl⟩ := fut_of (show Fut ((w.alloc (.cells #[.slice Z n zc, .slice X m xc] 31)).alloc (.cells #[.slice A1 n1 c1, .slice A2 n2 c2, .slice A3 n3 c3, .int .i64 s, .int .i64 u] 34)) w3 from (Fut.fut _ _ _).trans hb3)
        have HA3 := Lib.hid (show Fut ((w.alloc (.cells #[.slice Z n zc, .slice X m xc] 31)).alloc (.cells #[.slice A1 n1 c1, .slice A2 n2 c2, .slice A3 n3 c3, .int .i64 s, .int .i64 u] 34)) ((fut ((w.alloc (.cells #[.slice Z n zc, .slice X m xc] 31)).alloc (.cells #[.slice A1 n1 c1, .slice A2 n2 c2, .slice A3 n3 c3, .int .i64 s, .int .i64 u] 34)) d3 o3).alloc (.cells #[.slice A n c, .slice A1 n1 c1, .int .i64 s] 25)) from (Fut.fut _ _ _).alloc _)
        have HRA := Lib.hid (HRD.out.fut ((Fut.refl (fut ((w.alloc (.cells #[.slice Z n zc, .slice X m xc] 31)).alloc (.cells #[.slice A1 n1 c1, .slice A2 n2 c2, .slice A3 n3 c3, .int .i64 s, .int .i64 u] 34)) d3 o3)).alloc (.cells #[.slice A n c, .slice A1 n1 c1, .int .i64 s] 25)))
        have HIA := Lib.hid (show CelI ((fut ((w.alloc (.cells #[.slice Z n zc, .slice X m xc] 31)).alloc (.cells #[.slice A1 n1 c1, .slice A2 n2 c2, .slice A3 n3 c3, .int .i64 s, .int .i64 u] 34)) d3 o3).alloc (.cells #[.slice A n c, .slice A1 n1 c1, .int .i64 s] 25)) (fut ((w.alloc (.cells #[.slice Z n zc, .slice X m xc] 31)).alloc (.cells #[.slice A1 n1 c1, .slice A2 n2 c2, .slice A3 n3 c3, .int .i64 s, .int .i64 u] 34)) d3 o3).heap.size (.slice A n c) (.slice A1 n1 c1) (.int .i64 s) from heap_new' _ _ _ rfl)
        clear hr hkey hrd hb3 HRD
        go_wp2_with fail
        refine (HON.out _ (HZ.out.fut HA3.out) (hXN _) (R1.out.fut HA3.out) (R2.out.fut HA3.out) (R3.out.fut HA3.out)).mono ?_
        rintro e w6 ⟨hr, hb6⟩
        obtain ⟨B, d, cols2, rfl, hkey2, hrd2⟩ := hr.2 HE2.out
        have HA6 := Lib.hid (show Fut ((w.alloc (.cells #[.slice Z n zc, .slice X m xc] 31)).alloc (.cells #[.slice A1 n1 c1, .slice A2 n2 c2, .slice A3 n3 c3, .int .i64 s, .int .i64 u] 34)) (w6.alloc (.cells #[.slice B n d, .slice A1 n1 c1, .int .i64 s] 25)) from (HA3.out.trans hb6).alloc _)
        have f6 : Fut ((fut ((w.alloc (.cells #[.slice Z n zc, .slice X m xc] 31)).alloc (.cells #[.slice A1 n1 c1, .slice A2 n2 c2, .slice A3 n3 c3, .int .i64 s, .int .i64 u] 34)) d3 o3).alloc (.cells #[.slice A n c, .slice A1 n1 c1, .int .i64 s] 25)) (w6.alloc (.cells #[.slice B n d, .slice A1 n1 c1, .int .i64 s] 25)) := Fut.trans hb6 ((Fut.refl w6).alloc _)
        have HIB := Lib.hid (show CelI (w6.alloc (.cells #[.slice B n d, .slice A1 n1 c1, .int .i64 s] 25)) w6.heap.size (.slice B n d) (.slice A1 n1 c1) (.int .i64 s) from heap_new' _ _ _ rfl)
        have HIA6 := Lib.hid (HIA.out.fut f6)
        have HRA6 := Lib.hid (HRA.out.fut f6)
        have HKEY2 := Lib.hid hkey2
        have HRB6 := Lib.hid (hrd2.fut ((Fut.refl w6).alloc (.cells #[.slice B n d, .slice A1 n1 c1, .int .i64 s] 25)))
        have i0' := HIA6.out.c0
        have j0' := HIB.out.c0
        clear hr hb6 f6 hkey2 hrd2 HIA HRA
        clear q0 q1 q2 q3 q4 q5 q6
        go_wp2_with fail
        generalize w6.alloc (.cells #[.slice B n d, .slice A1 n1 c1, .int .i64 s] 25) = w7 at *
        generalize hwn : (fut ((w.alloc (.cells #[.slice Z n zc, .slice X m xc] 31)).alloc (.cells #[.slice A1 n1 c1, .slice A2 n2 c2, .slice A3 n3 c3, .int .i64 s, .int .i64 u] 34)) d3 o3).heap.size = wn at *
        clear hwn
        go_wp2_with fail
        go_loopw [9] (fun i wr => ∃ j : Nat, j ≤ n ∧ i = .int .i64 j ∧ Hid (Fut w7 wr)) (fun i _ => n - (intOf i).toNat)
        case atStart => exact ⟨0, Nat.zero_le _, rfl, Lib.hid (Fut.refl _)⟩
        case round =>
          obtain ⟨j, hj, rfl, HF7⟩ := hrel
          obtain ⟨wx, rfl⟩ : ∃ q, q = wr := ⟨_, rfl⟩
          have i0 := (HIA6.out.fut HF7.out).c0
          have j0 := (HIB.out.fut HF7.out).c0
          clear i0' j0'
          by_cases hlt : j < n
          · obtain ⟨ca, hca, a1, a2, a3⟩ := of_key HKEY.out (j := j) (by have := HLS.out.1; omega)
            obtain ⟨cb, hcb, a4, a5, a6⟩ := of_key HKEY2.out (j := j) (by have := HLS.out.1; omega)
            obtain ⟨ba, oa, hA0, hc1⟩ := HRA6.out.1 j ca hca
            obtain ⟨bb, ob, hB0, hc2⟩ := HRB6.out.1 j cb hcb
            obtain ⟨rx, _⟩ := HRA6.out.2 ca (List.mem_of_getElem? hca)
            obtain ⟨ry, _⟩ := HRB6.out.2 cb (List.mem_of_getElem? hcb)
            obtain ⟨ka, ra, da, aA, ak⟩ := ca
            obtain ⟨kb, rb, db, bA, bk⟩ := cb
            simp only at a1 a2 a3 a4 a5 a6 rx ry
            obtain ⟨kd, hkd⟩ : ∃ q, q = gi ks j := ⟨_, rfl⟩
            rw [← hkd] at a1 a2 a3 a4 a5 a6
            replace a1 := a1.symm
            replace a4 := a4.symm
            subst a1 a4
            subst a2 a3 a5 a6
            have gm : ∀ (f : Nat → Int) (k t : Nat), t < k → ((List.range k).map f)[t]? = some (f t) := fun f k t ht => by
              rw [List.getElem?_map, List.getElem?_range ht]
              rfl
            have la : ((List.range n1).map (rowF kd rep (cf xs j))).length = n1 := by simp
            have lb : ((List.range n1).map (rowF kd rep (cf [] j))).length = n1 := by simp
            have HRX := Lib.hid rx
            have HRY := Lib.hid ry
            have HXO := Lib.hid (show ∀ p ∈ cf xs j, 1 ≤ p.2 from fun p hp => ((okT_xs ((ofE_zero HE.out).2.2.1 j (by have := HLS.out.1; omega))).2 p hp).2.2)
            have v0 := HF7.out.cell (hc1 0 _ (by decide) rfl)
            have v1 := HF7.out.cell (hc1 1 _ (by decide) rfl)
            have v2 := HF7.out.cell (hc1 2 _ (by decide) rfl)
            have v3 := HF7.out.cell (hc2 0 _ (by decide) rfl)
            have v4 := HF7.out.cell (hc2 1 _ (by decide) rfl)
            have v5 := HF7.out.cell (hc2 2 _ (by decide) rfl)
            rw [la] at v1
            rw [lb] at v4
            rw [hA0] at i0
            rw [hB0] at j0
            simp only [Nat.add_zero] at v0 v3
            clear hca hcb hc1 hc2 rx ry la lb hkd hA0 hB0
            obtain ⟨S, hS⟩ : ∃ S : Nat → Bool, S = fun q => decide (wx.heap.size ≤ q) := ⟨_, rfl⟩
            have hlow : ∀ q, q < wx.heap.size → S q = false := fun q hq => by rw [hS]; exact decide_eq_false (by omega)
            have HS0 := Lib.hid (show S wx.heap.size = true by rw [hS]; exact decide_eq_true (Nat.le_refl _))
            have HS1 := Lib.hid (show S (wx.heap.size + 1) = true by rw [hS]; exact decide_eq_true (Nat.le_succ _))
            clear hS
            have x0 := cell_futS i0 (hlow _ (World.block_lt_of_cell? _ _ i0))
            have x1 := cell_futS j0 (hlow _ (World.block_lt_of_cell? _ _ j0))
            have x2 := cell_futS v0 (hlow _ (World.block_lt_of_cell? _ _ v0))
            have x3 := cell_futS v1 (hlow _ (World.block_lt_of_cell? _ _ v1))
            have x4 := cell_futS v2 (hlow _ (World.block_lt_of_cell? _ _ v2))
            have x5 := cell_futS v3 (hlow _ (World.block_lt_of_cell? _ _ v3))
            have x6 := cell_futS v4 (hlow _ (World.block_lt_of_cell? _ _ v4))
            have x7 := cell_futS v5 (hlow _ (World.block_lt_of_cell? _ _ v5))
            clear hlow
            go_wp2_with fail
            refine wp_region_MG (relS S) o_emendatelaw35_ColumnsConfusionsLower_12 (by kernel_rfl) (by kernel_rfl) (by intro c a d v w h; cases d <;> exact h) ?_; unfold o_emendatelaw35_ColumnsConfusionsLower_12
            iterate 10 (refine wpS_h rfl rfl (fun K hK => ?_); go_simp; refine hK _ _ ?_; clear hK K)
            refine wpG_two rfl rfl (fun K hK => ?_) (fun K hK => ?_)
            · go_simp
              refine hK _ _ (.inr ((relS S).of_fut ((Fut.refl _).alloc _))) ?_
              clear hK K
              refine wpG_o rfl rfl (fun K hK => ?_)
              go_simp
              refine hK _ _ (.inr ((relS S).of_fut ((Fut.refl _).alloc _))) ?_
              clear hK K
              have C10 : Cel ((wx.alloc (.cells #[.int .i64 0, .slice none 0 0, .int .i64 0] 51)).alloc (.cells #[.int .i64 0, .slice none 0 0, .int .i64 0] 51)).drew wx.heap.size (.int .i64 0) (.slice none 0 0) (.int .i64 0) := (blk_alloc_lt _ _ _ (by simp only [World.size_alloc]; omega)).trans (heap_new' _ _ _ rfl)
              have C11 : Cel ((wx.alloc (.cells #[.int .i64 0, .slice none 0 0, .int .i64 0] 51)).alloc (.cells #[.int .i64 0, .slice none 0 0, .int .i64 0] 51)).drew (wx.heap.size + 1) (.int .i64 0) (.slice none 0 0) (.int .i64 0) := heap_new' _ _ _ (by simp only [World.size_alloc])
              have FW2 : Fut w7 ((wx.alloc (.cells #[.int .i64 0, .slice none 0 0, .int .i64 0] 51)).alloc (.cells #[.int .i64 0, .slice none 0 0, .int .i64 0] 51)).drew := ((HF7.out.alloc _).alloc _).drew
              generalize ((wx.alloc (.cells #[.int .i64 0, .slice none 0 0, .int .i64 0] 51)).alloc (.cells #[.int .i64 0, .slice none 0 0, .int .i64 0] 51)).drew = w2 at *
              have hwx := HF7.out.size
              refine wpG_o rfl rfl (fun K hK => ?_)
              have z0 := C10.c0
              have z1 := C10.c1
              have z2 := C10.c2
              have z3 := C10.fz 0
              have z4 := C10.fz 1
              have z5 := C10.fz 2
              go_simp
              refine hK _ _ (.inr ((relS S).trans (futS_set _ _ _ HS0.out) ((relS S).trans (futS_set _ _ _ HS0.out) (futS_set _ _ _ HS0.out)))) ?_
              clear hK K z0 z1 z2 z3 z4 z5
              have D10 : Cel (((w2.setCell ⟨wx.heap.size, 0, none⟩ (.int .i64 kd)).setCell ⟨wx.heap.size, 1, none⟩ (.slice aA n1 ak)).setCell ⟨wx.heap.size, 2, none⟩ (.int .i64 (delF kd del u))) wx.heap.size (.int .i64 kd) (.slice aA n1 ak) (.int .i64 (delF kd del u)) := ((C10.set0 (.int .i64 kd)).set1 (.slice aA n1 ak)).set2 (.int .i64 (delF kd del u))
              have D11 : Cel (((w2.setCell ⟨wx.heap.size, 0, none⟩ (.int .i64 kd)).setCell ⟨wx.heap.size, 1, none⟩ (.slice aA n1 ak)).setCell ⟨wx.heap.size, 2, none⟩ (.int .i64 (delF kd del u))) (wx.heap.size + 1) (.int .i64 0) (.slice none 0 0) (.int .i64 0) := (((C11.setOther (a := ⟨wx.heap.size, 0, none⟩) (by simp only; omega) (.int .i64 kd)).setOther (a := ⟨wx.heap.size, 1, none⟩) (by simp only; omega) (.slice aA n1 ak)).setOther (a := ⟨wx.heap.size, 2, none⟩) (by simp only; omega) (.int .i64 (delF kd del u)))
              have FW3 : Fut w7 (((w2.setCell ⟨wx.heap.size, 0, none⟩ (.int .i64 kd)).setCell ⟨wx.heap.size, 1, none⟩ (.slice aA n1 ak)).setCell ⟨wx.heap.size, 2, none⟩ (.int .i64 (delF kd del u))) := sets_fut FW2 (by omega) _ _ _
              generalize (((w2.setCell ⟨wx.heap.size, 0, none⟩ (.int .i64 kd)).setCell ⟨wx.heap.size, 1, none⟩ (.slice aA n1 ak)).setCell ⟨wx.heap.size, 2, none⟩ (.int .i64 (delF kd del u))) = w3 at *
              clear C10 C11 FW2
              refine wpG_o rfl rfl (fun K hK => ?_)
              have z0 := D11.c0
              have z1 := D11.c1
              have z2 := D11.c2
              have z3 := D11.fz 0
              have z4 := D11.fz 1
              have z5 := D11.fz 2
              go_simp
              refine hK _ _ (.inr ((relS S).trans (futS_set _ _ _ HS1.out) ((relS S).trans (futS_set _ _ _ HS1.out) (futS_set _ _ _ HS1.out)))) ?_
              clear hK K z0 z1 z2 z3 z4 z5 x0 x1 x2 x3 x4 x5 x6 x7 v0 v1 v2 v3 v4 v5 i0 j0
              have H10 := Lib.hid (show Cel (((w3.setCell ⟨(wx.heap.size + 1), 0, none⟩ (.int .i64 kd)).setCell ⟨(wx.heap.size + 1), 1, none⟩ (.slice bA n1 bk)).setCell ⟨(wx.heap.size + 1), 2, none⟩ (.int .i64 (delF kd del u))) wx.heap.size (.int .i64 kd) (.slice aA n1 ak) (.int .i64 (delF kd del u)) from (((D10.setOther (a := ⟨(wx.heap.size + 1), 0, none⟩) (by simp only; omega) (.int .i64 kd)).setOther (a := ⟨(wx.heap.size + 1), 1, none⟩) (by simp only; omega) (.slice bA n1 bk)).setOther (a := ⟨(wx.heap.size + 1), 2, none⟩) (by simp only; omega) (.int .i64 (delF kd del u))))
              have H11 := Lib.hid (show Cel (((w3.setCell ⟨(wx.heap.size + 1), 0, none⟩ (.int .i64 kd)).setCell ⟨(wx.heap.size + 1), 1, none⟩ (.slice bA n1 bk)).setCell ⟨(wx.heap.size + 1), 2, none⟩ (.int .i64 (delF kd del u))) (wx.heap.size + 1) (.int .i64 kd) (.slice bA n1 bk) (.int .i64 (delF kd del u)) from ((D11.set0 (.int .i64 kd)).set1 (.slice bA n1 bk)).set2 (.int .i64 (delF kd del u)))
              have HFZ2 := Lib.hid (show Fut w7 (((w3.setCell ⟨(wx.heap.size + 1), 0, none⟩ (.int .i64 kd)).setCell ⟨(wx.heap.size + 1), 1, none⟩ (.slice bA n1 bk)).setCell ⟨(wx.heap.size + 1), 2, none⟩ (.int .i64 (delF kd del u))) from sets_fut FW3 (by omega) _ _ _)
              generalize (((w3.setCell ⟨(wx.heap.size + 1), 0, none⟩ (.int .i64 kd)).setCell ⟨(wx.heap.size + 1), 1, none⟩ (.slice bA n1 bk)).setCell ⟨(wx.heap.size + 1), 2, none⟩ (.int .i64 (delF kd del u))) = wz at *
              clear D10 D11 FW3 hwx
              refine wpG_nil ?_
              have t0 := H10.out.c0
              have t1 := H10.out.c1
              have t2 := H10.out.c2
              have t3 := H11.out.c0
              have t4 := H11.out.c1
              have t5 := H11.out.c2
              go_wp2_with fail
              go_loopw [12] (fun i wq => ∃ t : Nat, t ≤ n1 ∧ i = .int .i64 t ∧ Hid (Fut wz wq)) (fun i _ => n1 - (intOf i).toNat)
              case atStart => exact ⟨0, Nat.zero_le _, rfl, Lib.hid (Fut.refl _)⟩
              case round =>
                obtain ⟨t, ht, rfl, hF9⟩ := hrel
                obtain ⟨wx, rfl⟩ : ∃ q, q = wr := ⟨_, rfl⟩
                clear t0 t1 t2 t3 t4 t5
                have t1 := (H10.out.fut hF9.out).c1
                have t4 := (H11.out.fut hF9.out).c1
                by_cases hlt2 : t < n1
                · have f1 := cell_fut t1
                  have f4 := cell_fut t4
                  obtain ⟨bx, ox, hxA, hxc⟩ := HRX.out t _ (gm _ _ _ hlt2)
                  obtain ⟨by', oy, hyA, hyc⟩ := HRY.out t _ (gm _ _ _ hlt2)
                  have g1 := cell_fut ((HFZ2.out.trans hF9.out).cell hxc)
                  have g4 := cell_fut ((HFZ2.out.trans hF9.out).cell hyc)
                  rw [hxA] at f1 t1
                  rw [hyA] at f4 t4
                  obtain ⟨xv, hxv⟩ : ∃ q, q = rowF kd rep (cf xs j) t := ⟨_, rfl⟩
                  obtain ⟨yv, hyv⟩ : ∃ q, q = rowF kd rep (cf [] j) t := ⟨_, rfl⟩
                  rw [← hxv] at g1
                  rw [← hyv] at g4
                  have hlow : 0 ≤ yv → 0 ≤ xv ∧ xv ≤ yv := fun h => by
                    rw [hyv] at h ⊢
                    rw [hxv]
                    rw [show rowF kd rep (cf [] j) = r0 kd rep from by rw [cf_none (by simp)]; rfl] at h ⊢
                    exact fold_lower (cf xs j) (r0 kd rep) t HXO.out h
                  clear hxv hyv hxc hyc hxA hyA
                  by_cases hy0 : 0 ≤ yv
                  · obtain ⟨hl1, hl2⟩ := hlow hy0
                    have hd0 : decide (0 ≤ yv) = true := decide_eq_true hy0
                    have hd1 : decide (xv < 0) = false := decide_eq_false (by omega)
                    have hd2 : decide (yv < xv) = false := decide_eq_false (by omega)
                    clear hlow
                    go_wp2_with fail
                    refine wp_region_M o_emendatelaw35_ColumnsConfusionsLower_18 (by kernel_rfl) (by kernel_rfl) (by intro c a d v w h; cases d <;> exact h) ?_; unfold o_emendatelaw35_ColumnsConfusionsLower_18
                    iterate 27 (refine wpF_h rfl rfl (fun K hK => ?_); go_simp; refine hK _ _ ?_; clear hK K)
                    refine wpF_nil ?_
                    go_wp2_with fail
                    exact ⟨⟨t + 1, by omega, by go_num, Lib.hid hF9.out.drew⟩, by simp [intOf]; omega⟩
                  · have hd0 : decide (0 ≤ yv) = false := decide_eq_false hy0
                    clear hlow
                    go_wp2_with fail
                    refine wp_region_M o_emendatelaw35_ColumnsConfusionsLower_18 (by kernel_rfl) (by kernel_rfl) (by intro c a d v w h; cases d <;> exact h) ?_; unfold o_emendatelaw35_ColumnsConfusionsLower_18
                    iterate 7 (refine wpF_h rfl rfl (fun K hK => ?_); go_simp; refine hK _ _ ?_; clear hK K)
                    iterate 19 (refine wpF_hs2 rfl rfl (fun K hK => ?_); go_simp; refine hK _ _ ?_; clear hK K)
                    (refine wpF_h rfl rfl (fun K hK => ?_); go_simp; refine hK _ _ ?_; clear hK K)
                    refine wpF_nil ?_
                    go_wp2_with fail
                    exact ⟨⟨t + 1, by omega, by go_num, Lib.hid hF9.out.drew⟩, by simp [intOf]; omega⟩
                · go_wp2_with fail
                  exact ⟨⟨j + 1, by omega, by go_num, Lib.hid (HFZ2.out.trans hF9.out)⟩, by simp [intOf]; omega⟩
            · go_simp
              refine hK _ _ (.inr ((relS S).of_fut ((Fut.refl _).alloc _))) ?_
              clear hK K
              refine wpG_o rfl rfl (fun K hK => ?_)
              go_simp
              refine hK _ _ (.inr ((relS S).of_fut ((Fut.refl _).alloc _))) ?_
              clear hK K
              have C10 : Cel ((wx.alloc (.cells #[.int .i64 0, .slice none 0 0, .int .i64 0] 51)).alloc (.cells #[.int .i64 0, .slice none 0 0, .int .i64 0] 51)).drew (wx.heap.size + 1) (.int .i64 0) (.slice none 0 0) (.int .i64 0) := heap_new' _ _ _ (by simp only [World.size_alloc])
              have C11 : Cel ((wx.alloc (.cells #[.int .i64 0, .slice none 0 0, .int .i64 0] 51)).alloc (.cells #[.int .i64 0, .slice none 0 0, .int .i64 0] 51)).drew wx.heap.size (.int .i64 0) (.slice none 0 0) (.int .i64 0) := (blk_alloc_lt _ _ _ (by simp only [World.size_alloc]; omega)).trans (heap_new' _ _ _ rfl)
              have FW2 : Fut w7 ((wx.alloc (.cells #[.int .i64 0, .slice none 0 0, .int .i64 0] 51)).alloc (.cells #[.int .i64 0, .slice none 0 0, .int .i64 0] 51)).drew := ((HF7.out.alloc _).alloc _).drew
              generalize ((wx.alloc (.cells #[.int .i64 0, .slice none 0 0, .int .i64 0] 51)).alloc (.cells #[.int .i64 0, .slice none 0 0, .int .i64 0] 51)).drew = w2 at *
              have hwx := HF7.out.size
              refine wpG_o rfl rfl (fun K hK => ?_)
              have z0 := C10.c0
              have z1 := C10.c1
              have z2 := C10.c2
              have z3 := C10.fz 0
              have z4 := C10.fz 1
              have z5 := C10.fz 2
              go_simp
              refine hK _ _ (.inr ((relS S).trans (futS_set _ _ _ HS1.out) ((relS S).trans (futS_set _ _ _ HS1.out) (futS_set _ _ _ HS1.out)))) ?_
              clear hK K z0 z1 z2 z3 z4 z5
              have D10 : Cel (((w2.setCell ⟨(wx.heap.size + 1), 0, none⟩ (.int .i64 kd)).setCell ⟨(wx.heap.size + 1), 1, none⟩ (.slice aA n1 ak)).setCell ⟨(wx.heap.size + 1), 2, none⟩ (.int .i64 (delF kd del u))) (wx.heap.size + 1) (.int .i64 kd) (.slice aA n1 ak) (.int .i64 (delF kd del u)) := ((C10.set0 (.int .i64 kd)).set1 (.slice aA n1 ak)).set2 (.int .i64 (delF kd del u))
              have D11 : Cel (((w2.setCell ⟨(wx.heap.size + 1), 0, none⟩ (.int .i64 kd)).setCell ⟨(wx.heap.size + 1), 1, none⟩ (.slice aA n1 ak)).setCell ⟨(wx.heap.size + 1), 2, none⟩ (.int .i64 (delF kd del u))) wx.heap.size (.int .i64 0) (.slice none 0 0) (.int .i64 0) := (((C11.setOther (a := ⟨(wx.heap.size + 1), 0, none⟩) (by simp only; omega) (.int .i64 kd)).setOther (a := ⟨(wx.heap.size + 1), 1, none⟩) (by simp only; omega) (.slice aA n1 ak)).setOther (a := ⟨(wx.heap.size + 1), 2, none⟩) (by simp only; omega) (.int .i64 (delF kd del u)))
              have FW3 : Fut w7 (((w2.setCell ⟨(wx.heap.size + 1), 0, none⟩ (.int .i64 kd)).setCell ⟨(wx.heap.size + 1), 1, none⟩ (.slice aA n1 ak)).setCell ⟨(wx.heap.size + 1), 2, none⟩ (.int .i64 (delF kd del u))) := sets_fut FW2 (by omega) _ _ _
              generalize (((w2.setCell ⟨(wx.heap.size + 1), 0, none⟩ (.int .i64 kd)).setCell ⟨(wx.heap.size + 1), 1, none⟩ (.slice aA n1 ak)).setCell ⟨(wx.heap.size + 1), 2, none⟩ (.int .i64 (delF kd del u))) = w3 at *
              clear C10 C11 FW2
              refine wpG_o rfl rfl (fun K hK => ?_)
              have z0 := D11.c0
              have z1 := D11.c1
              have z2 := D11.c2
              have z3 := D11.fz 0
              have z4 := D11.fz 1
              have z5 := D11.fz 2
              go_simp
              refine hK _ _ (.inr ((relS S).trans (futS_set _ _ _ HS0.out) ((relS S).trans (futS_set _ _ _ HS0.out) (futS_set _ _ _ HS0.out)))) ?_
              clear hK K z0 z1 z2 z3 z4 z5 x0 x1 x2 x3 x4 x5 x6 x7 v0 v1 v2 v3 v4 v5 i0 j0
              have H10 := Lib.hid (show Cel (((w3.setCell ⟨wx.heap.size, 0, none⟩ (.int .i64 kd)).setCell ⟨wx.heap.size, 1, none⟩ (.slice bA n1 bk)).setCell ⟨wx.heap.size, 2, none⟩ (.int .i64 (delF kd del u))) (wx.heap.size + 1) (.int .i64 kd) (.slice aA n1 ak) (.int .i64 (delF kd del u)) from (((D10.setOther (a := ⟨wx.heap.size, 0, none⟩) (by simp only; omega) (.int .i64 kd)).setOther (a := ⟨wx.heap.size, 1, none⟩) (by simp only; omega) (.slice bA n1 bk)).setOther (a := ⟨wx.heap.size, 2, none⟩) (by simp only; omega) (.int .i64 (delF kd del u))))
              have H11 := Lib.hid (show Cel (((w3.setCell ⟨wx.heap.size, 0, none⟩ (.int .i64 kd)).setCell ⟨wx.heap.size, 1, none⟩ (.slice bA n1 bk)).setCell ⟨wx.heap.size, 2, none⟩ (.int .i64 (delF kd del u))) wx.heap.size (.int .i64 kd) (.slice bA n1 bk) (.int .i64 (delF kd del u)) from ((D11.set0 (.int .i64 kd)).set1 (.slice bA n1 bk)).set2 (.int .i64 (delF kd del u)))
              have HFZ2 := Lib.hid (show Fut w7 (((w3.setCell ⟨wx.heap.size, 0, none⟩ (.int .i64 kd)).setCell ⟨wx.heap.size, 1, none⟩ (.slice bA n1 bk)).setCell ⟨wx.heap.size, 2, none⟩ (.int .i64 (delF kd del u))) from sets_fut FW3 (by omega) _ _ _)
              generalize (((w3.setCell ⟨wx.heap.size, 0, none⟩ (.int .i64 kd)).setCell ⟨wx.heap.size, 1, none⟩ (.slice bA n1 bk)).setCell ⟨wx.heap.size, 2, none⟩ (.int .i64 (delF kd del u))) = wz at *
              clear D10 D11 FW3 hwx
              refine wpG_nil ?_
              have t0 := H10.out.c0
              have t1 := H10.out.c1
              have t2 := H10.out.c2
              have t3 := H11.out.c0
              have t4 := H11.out.c1
              have t5 := H11.out.c2
              go_wp2_with fail
              go_loopw [12] (fun i wq => ∃ t : Nat, t ≤ n1 ∧ i = .int .i64 t ∧ Hid (Fut wz wq)) (fun i _ => n1 - (intOf i).toNat)
              case atStart => exact ⟨0, Nat.zero_le _, rfl, Lib.hid (Fut.refl _)⟩
              case round =>
                obtain ⟨t, ht, rfl, hF9⟩ := hrel
                obtain ⟨wx, rfl⟩ : ∃ q, q = wr := ⟨_, rfl⟩
                clear t0 t1 t2 t3 t4 t5
                have t1 := (H10.out.fut hF9.out).c1
                have t4 := (H11.out.fut hF9.out).c1
                by_cases hlt2 : t < n1
                · have f1 := cell_fut t1
                  have f4 := cell_fut t4
                  obtain ⟨bx, ox, hxA, hxc⟩ := HRX.out t _ (gm _ _ _ hlt2)
                  obtain ⟨by', oy, hyA, hyc⟩ := HRY.out t _ (gm _ _ _ hlt2)
                  have g1 := cell_fut ((HFZ2.out.trans hF9.out).cell hxc)
                  have g4 := cell_fut ((HFZ2.out.trans hF9.out).cell hyc)
                  rw [hxA] at f1 t1
                  rw [hyA] at f4 t4
                  obtain ⟨xv, hxv⟩ : ∃ q, q = rowF kd rep (cf xs j) t := ⟨_, rfl⟩
                  obtain ⟨yv, hyv⟩ : ∃ q, q = rowF kd rep (cf [] j) t := ⟨_, rfl⟩
                  rw [← hxv] at g1
                  rw [← hyv] at g4
                  have hlow : 0 ≤ yv → 0 ≤ xv ∧ xv ≤ yv := fun h => by
                    rw [hyv] at h ⊢
                    rw [hxv]
                    rw [show rowF kd rep (cf [] j) = r0 kd rep from by rw [cf_none (by simp)]; rfl] at h ⊢
                    exact fold_lower (cf xs j) (r0 kd rep) t HXO.out h
                  clear hxv hyv hxc hyc hxA hyA
                  by_cases hy0 : 0 ≤ yv
                  · obtain ⟨hl1, hl2⟩ := hlow hy0
                    have hd0 : decide (0 ≤ yv) = true := decide_eq_true hy0
                    have hd1 : decide (xv < 0) = false := decide_eq_false (by omega)
                    have hd2 : decide (yv < xv) = false := decide_eq_false (by omega)
                    clear hlow
                    go_wp2_with fail
                    refine wp_region_M o_emendatelaw35_ColumnsConfusionsLower_18 (by kernel_rfl) (by kernel_rfl) (by intro c a d v w h; cases d <;> exact h) ?_; unfold o_emendatelaw35_ColumnsConfusionsLower_18
                    iterate 27 (refine wpF_h rfl rfl (fun K hK => ?_); go_simp; refine hK _ _ ?_; clear hK K)
                    refine wpF_nil ?_
                    go_wp2_with fail
                    exact ⟨⟨t + 1, by omega, by go_num, Lib.hid hF9.out.drew⟩, by simp [intOf]; omega⟩
                  · have hd0 : decide (0 ≤ yv) = false := decide_eq_false hy0
                    clear hlow
                    go_wp2_with fail
                    refine wp_region_M o_emendatelaw35_ColumnsConfusionsLower_18 (by kernel_rfl) (by kernel_rfl) (by intro c a d v w h; cases d <;> exact h) ?_; unfold o_emendatelaw35_ColumnsConfusionsLower_18
                    iterate 7 (refine wpF_h rfl rfl (fun K hK => ?_); go_simp; refine hK _ _ ?_; clear hK K)
                    iterate 19 (refine wpF_hs2 rfl rfl (fun K hK => ?_); go_simp; refine hK _ _ ?_; clear hK K)
                    (refine wpF_h rfl rfl (fun K hK => ?_); go_simp; refine hK _ _ ?_; clear hK K)
                    refine wpF_nil ?_
                    go_wp2_with fail
                    exact ⟨⟨t + 1, by omega, by go_num, Lib.hid hF9.out.drew⟩, by simp [intOf]; omega⟩
                · go_wp2_with fail
                  exact ⟨⟨j + 1, by omega, by go_num, Lib.hid (HFZ2.out.trans hF9.out)⟩, by simp [intOf]; omega⟩
          · go_wp2_with (go_at_call 10; refine (awake_any _).mono ?_; rintro e w1 ⟨rfl, hb1⟩; have HB := Lib.hid hb1; clear hb1)
            go_ret
            exact ⟨rfl, HW.out.trans (HA6.out.trans (HF7.out.trans HB.out))⟩
      · have HE := Lib.hid hE
        obtain ⟨m1, m2, m3⟩ := cmpF_no hE
        clear hE
        go_enter Try.func8, Try.ntmps8
        go_wp2_with (first | (go_at_call 13; refine (HFZ.out _ HX.out).mono ?_; rintro e w1 ⟨rfl, hb1⟩; obtain ⟨dd, oo, rfl⟩ := fut_of hb1; clear hb1) | (go_at_call 14; refine (HFP.out _ (R3.out.fut (Fut.fut _ _ _))).mono ?_; rintro e w1 ⟨rfl, hb1⟩; obtain ⟨d2, o2, rfl⟩ := fut_of (Fut.trans (Fut.fut _ _ _) hb1); clear hb1))
        refine (HOF.out _ (HZ.out.fut (Fut.fut _ _ _)) (HX.out.fut (Fut.fut _ _ _)) (R1.out.fut (Fut.fut _ _ _)) (R2.out.fut (Fut.fut _ _ _)) (R3.out.fut (Fut.fut _ _ _))).mono ?_
        rintro e w3 ⟨hr, hb3⟩
        obtain rfl := hr.1 HE.out
        obtain ⟨d3, o3, rfl⟩ := fut_of (show Fut ((w.alloc (.cells #[.slice Z n zc, .slice X m xc] 31)).alloc (.cells #[.slice A1 n1 c1, .slice A2 n2 c2, .slice A3 n3 c3, .int .i64 s, .int .i64 u] 34)) w3 from (Fut.fut _ _ _).trans hb3)
        clear hr hb3
        go_wp2_with fail
        refine (HON.out _ (HZ.out.fut ((Fut.fut _ _ _).alloc _)) (hXN _) (R1.out.fut ((Fut.fut _ _ _).alloc _)) (R2.out.fut ((Fut.fut _ _ _).alloc _)) (R3.out.fut ((Fut.fut _ _ _).alloc _))).mono ?_
        rintro e w6 ⟨hr, hb6⟩
        have HF6 := Lib.hid (show Fut w w6 from (HW.out.trans ((Fut.fut _ _ _).alloc _)).trans hb6)
        by_cases hE2 : ofE ks [] ins del rep s u = 0
        · obtain ⟨B9, d9, cols9, rfl, _, _⟩ := hr.2 hE2
          clear hr hb6
          go_wp2_with (go_at_call 10; refine (awake_any _).mono ?_; rintro e w1 ⟨rfl, hb1⟩; have HB := Lib.hid hb1; clear hb1)
          go_ret
          exact ⟨rfl, (HF6.out.alloc _).trans HB.out⟩
        · obtain rfl := hr.1 hE2
          clear hr hb6
          go_wp2_with (go_at_call 10; refine (awake_any _).mono ?_; rintro e w1 ⟨rfl, hb1⟩; have HB := Lib.hid hb1; clear hb1)
          go_ret
          exact ⟨rfl, (HF6.out.alloc _).trans HB.out⟩
    · rw [bnot hp] at HFP
      go_enter Try.func8, Try.ntmps8
      go_wp2_with (first | (go_at_call 13; refine (HFZ.out _ HX.out).mono ?_; rintro e w1 ⟨rfl, hb1⟩; obtain ⟨dd, oo, rfl⟩ := fut_of hb1; clear hb1) | (go_at_call 14; refine (HFP.out _ (R3.out.fut (Fut.fut _ _ _))).mono ?_; rintro e w1 ⟨rfl, hb1⟩; obtain ⟨d2, o2, rfl⟩ := fut_of (Fut.trans (Fut.fut _ _ _) hb1); clear hb1) | (go_at_call 10; refine (awake_any _).mono ?_; rintro e w1 ⟨rfl, hb1⟩; have HB := Lib.hid hb1; clear hb1))
      go_ret
      exact ⟨rfl, HW.out.trans ((Fut.fut _ _ _).trans HB.out)⟩
  · rw [bnot hz] at HFZ
    go_enter Try.func8, Try.ntmps8
    go_wp2_with (first | (go_at_call 13; refine (HFZ.out _ HX.out).mono ?_; rintro e w1 ⟨rfl, hb1⟩; obtain ⟨dd, oo, rfl⟩ := fut_of hb1; clear hb1) | (go_at_call 10; refine (awake_any _).mono ?_; rintro e w1 ⟨rfl, hb1⟩; have HB := Lib.hid hb1; clear hb1))
    go_ret
    exact ⟨rfl, HW.out.trans ((Fut.fut _ _ _).trans HB.out)⟩
end Go.Proofs.Ytagmpbgidooibaa
