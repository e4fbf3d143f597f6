/-
  Order of the reference, walked.
-/
import Derived.Test.YtjoejkfchnooaaaHord
import Derived.Test.YtjoejkfchnooaaaHrder
namespace Go.Proofs.Ytjoejkfchnooaaa
open Go.RowKit
attribute [local go_sem] Oper.lit Oper.litS fut_fut fut_drew World.cell?_alloc_some
theorem all_pre {es : List EI} {D : Nat → Bool} {v k : Nat} (h : ((List.range k).all fun i => headAt es i != v || (tl es i).all D) = true) (hk : headAt es k ≠ v ∨ (tl es k).all D = true) : ((List.range (k + 1)).all fun i => headAt es i != v || (tl es i).all D) = true := by
  rw [List.range_succ, List.all_append, h]
  simp only [List.all_cons, List.all_nil, Bool.and_true, Bool.true_and, Bool.or_eq_true, bne_iff_ne, ne_eq]
  exact hk
theorem all_bad {es : List EI} {D : Nat → Bool} {v k : Nat} (hk : k < es.length) (h1 : headAt es k = v) (h2 : (tl es k).all D = false) : readyB es D v = false := by
  unfold readyB
  exact List.all_eq_false.2 ⟨k, List.mem_range.2 hk, by simp [h1, h2]⟩
set_option maxHeartbeats 3200000 in
theorem ready_any (N v : Nat) (A : Option Addr) (n c d : Nat) (es : List EI) (D : Nat → Bool) (w : World) (hl : es.length = n) (hn : n ≤ 1000) (hhd : ∀ e ∈ es, 0 ≤ e.h ∧ e.h < N) (htl : ∀ e ∈ es, ∀ t ∈ e.t, 0 ≤ t ∧ t < N) (hR : RdE w A es) (hrow : w.rowIs d 4 N (fun i => .bool (D i))) :
    Calls Try.prog 33 #[hv N A n c, .int .i64 v, .slice (some ⟨d, 0, none⟩) N N] w fun e w' => e = .returned (.bool (readyB es D v)) ∧ Below w.heap.size w w' := by
  have HL := Lib.hid hl
  have HV := Lib.hid hhd
  have HT := Lib.hid htl
  have HR := Lib.hid (hR.fut ((Fut.refl w).alloc (.cells #[.int .i64 N, .slice A n c] 24)))
  have HROW := Lib.hid (hrow.alloc (.cells #[.int .i64 N, .slice A n c] 24))
  have HF := Lib.hid ((Fut.refl w).alloc (.cells #[.int .i64 N, .slice A n c] 24))
  have x0 : (w.alloc (.cells #[.int .i64 N, .slice A n c] 24)).cell? ⟨w.heap.size, 0, none⟩ = some (.int .i64 N) := by (first | (with_reducible assumption) | ((try simp (disch := first | (simp only [World.size_alloc, World.size_drew, World.size_setCell]; done) | (simp only [World.size_alloc, World.size_drew, World.size_setCell]; omega) | omega) only [cell_al_new, cell_al_old, cell_dr]); first | (with_reducible assumption) | rfl | (simp; done)))
  have x1 : (w.alloc (.cells #[.int .i64 N, .slice A n c] 24)).cell? ⟨w.heap.size, 1, none⟩ = some (.slice A n c) := by (first | (with_reducible assumption) | ((try simp (disch := first | (simp only [World.size_alloc, World.size_drew, World.size_setCell]; done) | (simp only [World.size_alloc, World.size_drew, World.size_setCell]; omega) | omega) only [cell_al_new, cell_al_old, cell_dr]); first | (with_reducible assumption) | rfl | (simp; done)))
  clear hl hhd htl hR hrow
  go_enter Try.func33, Try.ntmps33
  go_wp2_with fail
  generalize w.alloc (.cells #[.int .i64 N, .slice A n c] 24) = wb at *
  go_loopw [7] (fun i wr => ∃ k : Nat, k ≤ n ∧ i = .int .i64 k ∧ Hid (((List.range k).all fun i => headAt es i != v || (tl es i).all D) = true) ∧ wr = wb) (fun i _ => n - (intOf i).toNat)
  case atStart => exact ⟨0, Nat.zero_le _, rfl, Lib.hid rfl, rfl⟩
  case round =>
    obtain ⟨k, hk, rfl, hall, rfl⟩ := hrel
    by_cases hlt : k < n
    · obtain ⟨x, hx⟩ := get_lt HL.out hlt
      obtain ⟨b, o, rfl, hc⟩ := HR.out.1 k x hx
      have c0 := hc 0 _ (by decide) rfl
      have c1 := hc 1 _ (by decide) rfl
      simp only [Nat.add_zero] at c0
      have hxh := HV.out x (List.mem_of_getElem? hx)
      have HXT := Lib.hid (HR.out.2 x (List.mem_of_getElem? hx))
      have HXV := Lib.hid (HT.out x (List.mem_of_getElem? hx))
      have HTL := Lib.hid (tl_of hx)
      have hha := headAt_of hx
      clear hx hc
      obtain ⟨xh, xt, xc, xl0, xl1, xA, xk⟩ := x
      simp only at HXT HXV HTL hxh hha c0 c1
      obtain ⟨hd, rfl⟩ : ∃ m : Nat, xh = m := Int.eq_ofNat_of_zero_le hxh.1
      have HHD := Lib.hid (show headAt es k = hd from hha)
      clear hxh hha
      by_cases hdv : hd = v
      · subst hdv
        have hb : ((hd : Int) == (hd : Int)) = true := by simp
        cases hal : (xt.map Int.toNat).all D
        · have HB := Lib.hid (all_bad (by rw [HL.out]; exact hlt) HHD.out (by rw [HTL.out]; exact hal))
          have HAL := Lib.hid hal
          clear hal
          go_wp2_with (go_at_call 31; refine (all_any xA xt.length xk xt d N D _ _ rfl HXT.out.2 HAL.out HXV.out HXT.out.1 HROW.out).mono ?_; rintro e w1 ⟨rfl, rfl⟩)
          go_ret
          exact ⟨by rw [HB.out]; rfl, HF.out⟩
        · have HB := Lib.hid (all_pre hall.out (.inr (by rw [HTL.out]; exact hal)))
          have HAL := Lib.hid hal
          clear hal
          go_wp2_with (go_at_call 31; refine (all_any xA xt.length xk xt d N D _ _ rfl HXT.out.2 HAL.out HXV.out HXT.out.1 HROW.out).mono ?_; rintro e w1 ⟨rfl, rfl⟩)
          exact ⟨⟨k + 1, by omega, by go_num, HB, by first | rfl | trivial⟩, by simp [intOf]; omega⟩
      · have hb : ((hd : Int) == (v : Int)) = false := by
          rw [beq_eq_false_iff_ne]; omega
        have HB := Lib.hid (all_pre hall.out (.inl (by rw [HHD.out]; exact hdv)))
        clear hdv
        go_wp2_with fail
        exact ⟨⟨k + 1, by omega, by go_num, HB, by first | rfl | trivial⟩, by simp [intOf]; omega⟩
    · have HB := Lib.hid (show readyB es D v = true from by unfold readyB; rw [HL.out, show n = k by omega]; exact hall.out)
      go_wp2_with fail
      go_ret
      exact ⟨by rw [HB.out]; rfl, HF.out⟩
set_option maxHeartbeats 6400000 in
theorem rOrder_any (N : Nat) (A : Option Addr) (n c : Nat) (es : List EI) (w : World) (hl : es.length = n) (hn : n ≤ 1000) (hN : N ≤ 1048576) (hhd : ∀ e ∈ es, 0 ≤ e.h ∧ e.h < N) (htl : ∀ e ∈ es, ∀ t ∈ e.t, 0 ≤ t ∧ t < N) (hR : RdE w A es) :
    Calls Try.prog 21 #[hv N A n c] w fun e w' => OrdRes w' e (ordS es N) ∧ Below w.heap.size w w' := by
  have HR := Lib.hid hR
  have HL := Lib.hid hl
  have HV := Lib.hid hhd
  have HT := Lib.hid htl
  clear hR hl hhd htl
  obtain ⟨i0, hi, hz0, hz1, hz2⟩ := info_parts info_bool
  have HW := Lib.hid (show Fut w ((w.alloc (.cells #[.int .i64 N, .slice A n c] 24)).alloc (.cells (madeCells #[.bool false] N) 4)) from ((Fut.refl w).alloc _).alloc _)
  have HROW := Lib.hid (show ((w.alloc (.cells #[.int .i64 N, .slice A n c] 24)).alloc (.cells (madeCells #[.bool false] N) 4)).rowIs (w.heap.size + 1) 4 N (fun _ => .bool false) from by
    have := World.rowIs_made (w.alloc (.cells #[.int .i64 N, .slice A n c] 24)) (.bool false) N 4
    simpa only [World.size_alloc] using this)
  have hb0 : ((w.alloc (.cells #[.int .i64 N, .slice A n c] 24)).alloc (.cells (madeCells #[.bool false] N) 4)).cell? ⟨w.heap.size, 0, none⟩ = some (.int .i64 N) := by (first | (with_reducible assumption) | ((try simp (disch := first | (simp only [World.size_alloc, World.size_drew, World.size_setCell]; done) | (simp only [World.size_alloc, World.size_drew, World.size_setCell]; omega) | omega) only [cell_al_new, cell_al_old, cell_dr]); first | (with_reducible assumption) | rfl | (simp; done)))
  have hb1 : ((w.alloc (.cells #[.int .i64 N, .slice A n c] 24)).alloc (.cells (madeCells #[.bool false] N) 4)).cell? ⟨w.heap.size, 1, none⟩ = some (.slice A n c) := by (first | (with_reducible assumption) | ((try simp (disch := first | (simp only [World.size_alloc, World.size_drew, World.size_setCell]; done) | (simp only [World.size_alloc, World.size_drew, World.size_setCell]; omega) | omega) only [cell_al_new, cell_al_old, cell_dr]); first | (with_reducible assumption) | rfl | (simp; done)))
  have HSZ := Lib.hid (show w.heap.size + 2 ≤ ((w.alloc (.cells #[.int .i64 N, .slice A n c] 24)).alloc (.cells (madeCells #[.bool false] N) 4)).heap.size from by simp only [World.size_alloc]; omega)
  go_enter Try.func21, Try.ntmps21
  go_wp2_with (refine wpList_make_row _ rfl _ _ 28 rfl 4 i0 (.bool false) Try.underlying28 hi hz0 hz1 rfl .i64 .i64 N rfl rfl (by rw [hz2]; omega) (by omega) ?_)
  have HB0 := Lib.hid hb0
  have HB1 := Lib.hid hb1
  clear hb0 hb1
  go_loopw [5] (fun lv wr => ∃ (D : Nat → Bool) (l : List Nat), Hid (OI es N D l) ∧ Hid (wr.rowIs (w.heap.size + 1) 4 N (fun i => .bool (D i))) ∧ Hid (Own wr (w.heap.size + 2) lv l) ∧ Hid (Fut w wr) ∧ Hid (wr.cell? ⟨w.heap.size, 0, none⟩ = some (.int .i64 N)) ∧ Hid (wr.cell? ⟨w.heap.size, 1, none⟩ = some (.slice A n c)) ∧ Hid (w.heap.size + 2 ≤ wr.heap.size)) (fun lv _ => N - lenOf lv)
  case atStart => exact ⟨_, [], Lib.hid (OI.start es N), HROW, Lib.hid (Own.nil _ _), HW, HB0, HB1, HSZ⟩
  case round =>
    clear HROW HW HB0 HB1 HSZ
    obtain ⟨D, l, hOI, hrow, hown, hF, hB0, hB1, hSZ⟩ := hrel
    have hb0 := hB0.out
    obtain ⟨la, lc, hlv, hla⟩ := hown.out.form
    subst hlv
    by_cases hln : l.length < N
    · obtain ⟨wo, rfl⟩ : ∃ x, x = wr := ⟨_, rfl⟩
      go_wp2_with fail
      clear hb0
      go_loopw [6, 7] (fun nx i wr => ∃ v0 : Nat, v0 ≤ N ∧ i = .int .i64 v0 ∧ ((nx = .int .i64 (-1) ∧ Hid (∀ u, u < v0 → (!(D u) && readyB es D u) = false)) ∨ ∃ u0 : Nat, nx = .int .i64 u0 ∧ u0 < N ∧ Hid (nextO es N D = some u0)) ∧ Hid (Fut wo wr)) (fun _ i _ => N - (intOf i).toNat)
      case atStart => exact ⟨0, Nat.zero_le _, rfl, .inl ⟨rfl, Lib.hid (fun u hu => by omega)⟩, Lib.hid (Fut.refl _)⟩
      case round =>
        obtain ⟨v0, hv0, rfl, hnx, hFo⟩ := hrel
        have hb0 := hFo.out.cell hB0.out
        have hb1 := hFo.out.cell hB1.out
        have hr2 := hrow.out.of_block (hFo.out.block _ hrow.out.lt)
        have HR2 := Lib.hid hr2
        have hszw : w.heap.size + 2 ≤ wr.heap.size := Nat.le_trans hSZ.out hFo.out.size
        rcases hnx with ⟨rfl, hpre⟩ | ⟨u0, rfl, hu0, hnx⟩
        · by_cases hv : v0 < N
          · have hcd := hr2.cell hv
            have go_on : (!(D v0) && readyB es D v0) = false → ∀ u, u < v0 + 1 → (!(D u) && readyB es D u) = false := fun hb u hu => by
              by_cases e : u = v0
              · subst e; exact hb
              · exact hpre.out u (by omega)
            have HGO := Lib.hid go_on
            clear go_on hr2
            obtain ⟨wi, rfl⟩ : ∃ x, x = wr := ⟨_, rfl⟩
            cases hD : D v0
            · rw [hD] at hcd
              cases hrd : readyB es D v0
              · have HBAD := Lib.hid (HGO.out (by rw [hrd]; simp))
                have HRD := Lib.hid hrd
                clear hD hrd
                go_wp2_with (go_at_call 33; refine (ready_any N v0 A n c (w.heap.size + 1) es D _ HL.out hn HV.out HT.out (HR.out.fut (hF.out.trans hFo.out)) HR2.out).mono ?_; rintro e w1 ⟨rfl, hb1⟩; rw [HRD.out]; have HF1 := Lib.hid (hFo.out.trans hb1); clear hb1)
                exact ⟨⟨v0 + 1, by omega, by go_num, .inl ⟨rfl, HBAD⟩, HF1⟩, by simp [intOf]; omega⟩
              · have HNX := Lib.hid (nextO_some hv (show (!(D v0) && readyB es D v0) = true from by rw [hD, hrd]; rfl) hpre.out)
                have HRD := Lib.hid hrd
                clear hD hrd
                go_wp2_with (go_at_call 33; refine (ready_any N v0 A n c (w.heap.size + 1) es D _ HL.out hn HV.out HT.out (HR.out.fut (hF.out.trans hFo.out)) HR2.out).mono ?_; rintro e w1 ⟨rfl, hb1⟩; rw [HRD.out]; have HF1 := Lib.hid (hFo.out.trans hb1); clear hb1)
                exact ⟨⟨v0 + 1, by omega, by go_num, .inr ⟨v0, rfl, hv, HNX⟩, HF1⟩, by simp [intOf]; omega⟩
            · rw [hD] at hcd
              have HBAD := Lib.hid (HGO.out (by rw [hD]; rfl))
              clear hD
              go_wp2_with fail
              exact ⟨⟨v0 + 1, by omega, by go_num, .inl ⟨rfl, HBAD⟩, hFo⟩, by simp [intOf]; omega⟩
          · have hvN : v0 = N := by omega
            have HST := Lib.hid (hOI.out.stuck hln (nextO_none (by rw [← hvN]; exact hpre.out)))
            clear hvN hr2
            go_wp2_with fail
            go_ret2
            refine ⟨?_, hF.out.trans hFo.out⟩
            rw [HST.out]
            rfl
        · have hcd := hr2.cell hu0
          have hfd := hr2.frozen u0
          have HOW := Lib.hid ((hown.out.kept (row := none) ⟨hFo.out.os, hFo.out.tape, hFo.out.output, hFo.out.size, fun q hq _ => hFo.out.block q hq⟩ (by cases h : (Value.slice la l.length lc).ownBlock <;> simp)).setOther (a := ⟨w.heap.size + 1, u0, none⟩) (by simp only; omega) (.bool true) |>.alloc (.cells #[nv u0] 3))
          have hlb : l.length ≤ 17000000000000 := by omega
          have HOI2 := Lib.hid (hOI.out.step hln hnx.out hu0)
          clear hr2
          obtain ⟨wi, rfl⟩ : ∃ x, x = wr := ⟨_, rfl⟩
          rcases Nat.lt_or_ge v0 N with hvv | hvv
          all_goals
            go_wp2_with (at_builtin; refine wpList_push rfl (.tmp 43) (.tmp 45) rfl (w.heap.size + 2) _ l rfl HOW.out wi.heap.size u0 rfl (by rw [← World.size_setCell wi ⟨w.heap.size + 1, u0, none⟩ (.bool true)]; exact heap_alloc_new _ _) hlb (by rw [World.size_alloc, World.size_setCell]; omega) ?_; intro g2 cp2 w2 hown2 hgr2 _; have HOWN2 := Lib.hid hown2; have HGR2 := Lib.hid hgr2; clear hown2 hgr2)
            have hne2 : ∀ q, q < w.heap.size + 2 → some q ≠ (Value.slice la l.length lc).ownBlock := fun q hq e => by have := (hown.out.lt q e.symm).1; omega
            have hkeep : ∀ q, q < w.heap.size + 2 → w2.heap[q]? = ((wi.setCell ⟨w.heap.size + 1, u0, none⟩ (.bool true)).alloc (.cells #[nv u0] 3)).heap[q]? := fun q hq => HGR2.out.block q (by rw [World.size_alloc, World.size_setCell]; omega) (hne2 q hq)
            have hcell : ∀ (p : Addr) (x : Value), p.block < w.heap.size + 1 → wi.cell? p = some x → w2.cell? p = some x := fun p x hp hc => (World.cell?_of_block (hkeep _ (by omega))).trans (((Fut.refl _).alloc _).cell (cell_set hc (by simp only; omega)))
            refine ⟨⟨upd D u0 true, l ++ [u0], HOI2, Lib.hid (((row_upd (f := Value.bool) (i := u0) (x := true) HR2.out).alloc (.cells #[nv u0] 3)).of_block (hkeep _ (by omega))), HOWN2, Lib.hid (Below.grown (((hF.out.trans hFo.out).setCell (by simp only; omega) _).alloc _) HGR2.out (by rw [World.size_alloc, World.size_setCell]; omega) (fun q hq => by have := (hown.out.lt q hq).1; omega)), Lib.hid (hcell _ _ (by simp only; omega) hb0), Lib.hid (hcell _ _ (by simp only; omega) hb1), Lib.hid ?_⟩, by simp only [lenOf]; omega⟩
            have := HGR2.out.size
            rw [World.size_alloc, World.size_setCell] at this
            omega
    · have HD := Lib.hid (hOI.out.done (by omega))
      have HR2 := Lib.hid hown.out.rd
      have hlN : l.length = N := HD.out.2
      go_wp2_with fail
      go_ret2
      refine ⟨?_, hF.out⟩
      rw [HD.out.1]
      exact ⟨la, lc, by rw [HD.out.2]; rfl, HR2.out.2⟩
end Go.Proofs.Ytjoejkfchnooaaa
