/-
  Valid of derivations, as the reference has it.
-/
import Derived.Test.YtfaekfonemobcaaD3
namespace Go.Proofs.Ytfaekfonemobcaa
open Go.RowKit
attribute [local go_sem] Oper.lit Oper.litS fut_fut fut_drew World.cell?_alloc_some
set_option maxHeartbeats 6400000 in
theorem rdvalid_any (N : Int) (A : Option Addr) (n c : Nat) (es : List EI) (hl : es.length = n) (hn : n ≤ maxLen) (hvd : validB N es = true) (d : DI) : ∀ (r : Int) w, RdE w A es → RdD w d →
    Calls Try.prog 12 #[hv N A n c, .int .i64 r, dv d] w fun q w' => q = .returned (.bool (PK.validD (EEs es) (toDT d) r)) ∧ Below w.heap.size w w' := by
  have HL := Lib.hid hl
  have HVD := Lib.hid hvd
  have hn63 : n ≤ 9223372036854775807 := hn
  clear hl hvd hn
  induction d using DI.ind with
  | h e B d k ih =>
    intro r w hR hRD
    obtain ⟨hS, hkl, hK⟩ := hRD.parts
    have HR := Lib.hid hR
    have HS := Lib.hid hS
    have HK := Lib.hid hK
    have HI := Lib.hid ih
    obtain ⟨m, hm⟩ : ∃ m, k.length = m := ⟨_, rfl⟩
    have hm63 : m ≤ 9223372036854775807 := hm ▸ hkl
    have HM := Lib.hid hm
    simp only [dv, DI.e, DI.A, DI.c, DI.k, hm]
    rw [toDT_eq]
    clear hS hK hR ih hkl hm hRD
    have HF := Lib.hid (show Fut w ((w.alloc (.cells #[.int .i64 N, .slice A n c] 24)).alloc (.cells #[.int .i64 e, .slice B m d] 27)) from ((Fut.refl w).alloc _).alloc _)
    have Q0 := Lib.hid (show ((w.alloc (.cells #[.int .i64 N, .slice A n c] 24)).alloc (.cells #[.int .i64 e, .slice B m d] 27)).cell? ⟨w.heap.size, 0, none⟩ = some (.int .i64 N) from by (repeat (first | exact (cell_al_new _ _ _ _ _ _ (by first | rfl | (simp only [World.size_alloc]))).trans rfl | refine (cell_al_old _ _ _ (by first | omega | (simp only [World.size_alloc]; omega))).trans ?_)))
    have Q1 := Lib.hid (show ((w.alloc (.cells #[.int .i64 N, .slice A n c] 24)).alloc (.cells #[.int .i64 e, .slice B m d] 27)).cell? ⟨w.heap.size, 1, none⟩ = some (.slice A n c) from by (repeat (first | exact (cell_al_new _ _ _ _ _ _ (by first | rfl | (simp only [World.size_alloc]))).trans rfl | refine (cell_al_old _ _ _ (by first | omega | (simp only [World.size_alloc]; omega))).trans ?_)))
    have Q2 := Lib.hid (show ((w.alloc (.cells #[.int .i64 N, .slice A n c] 24)).alloc (.cells #[.int .i64 e, .slice B m d] 27)).cell? ⟨w.heap.size + 1, 0, none⟩ = some (.int .i64 e) from by (repeat (first | exact (cell_al_new _ _ _ _ _ _ (by first | rfl | (simp only [World.size_alloc]))).trans rfl | refine (cell_al_old _ _ _ (by first | omega | (simp only [World.size_alloc]; omega))).trans ?_)))
    have Q3 := Lib.hid (show ((w.alloc (.cells #[.int .i64 N, .slice A n c] 24)).alloc (.cells #[.int .i64 e, .slice B m d] 27)).cell? ⟨w.heap.size + 1, 1, none⟩ = some (.slice B m d) from by (repeat (first | exact (cell_al_new _ _ _ _ _ _ (by first | rfl | (simp only [World.size_alloc]))).trans rfl | refine (cell_al_old _ _ _ (by first | omega | (simp only [World.size_alloc]; omega))).trans ?_)))
    go_enter Try.func12, Try.ntmps12
    go_wp2_with fail
    generalize (w.alloc (.cells #[.int .i64 N, .slice A n c] 24)).alloc (.cells #[.int .i64 e, .slice B m d] 27) = wb at *
    have q1 := cell_fut Q1.out
    have q2 := cell_fut Q2.out
    have q3 := cell_fut Q3.out
    by_cases hin : 0 ≤ e ∧ e < (n : Int)
    · obtain ⟨q, rfl⟩ : ∃ q : Nat, e = q := ⟨e.toNat, by omega⟩
      have hq : q < n := by omega
      obtain ⟨x, hx⟩ := get_lt HL.out hq
      obtain ⟨b, o, rfl, hc⟩ := HR.out.1 q x hx
      obtain ⟨ht, htl⟩ := (HR.out.2 x (List.mem_of_getElem? hx))
      have HX := Lib.hid hx
      have HT := Lib.hid ht
      have HO := Lib.hid (okE_parts ((validB_parts HVD.out).2.2 x (List.mem_of_getElem? hx)))
      have c0 := HF.out.cell (hc 0 _ (by decide) rfl)
      have c1 := HF.out.cell (hc 1 _ (by decide) rfl)
      simp only [Nat.add_zero] at c0
      have HG := Lib.hid (fun hl : x.t.length = k.length => validD_good (r := r) HVD.out hx hl)
      have HB := Lib.hid (fun h => validD_bad (r := r) (k := k.map toDT) hx h)
      clear hin hx hc ht
      obtain ⟨xh, xt, xc, xl0, xl1, xA, xk⟩ := x
      simp only at c0 c1 HT HO HG HB htl
      obtain ⟨tl, htl2⟩ : ∃ tl, xt.length = tl := ⟨_, rfl⟩
      rw [htl2] at c1 htl
      have htl63 : tl ≤ 9223372036854775807 := htl
      have HTL := Lib.hid htl2
      have C1 := Lib.hid c1
      replace c0 := cell_fut c0
      replace c1 := cell_fut c1
      clear htl htl2
      have g0 : ((q : Int) < 0) = False := eq_false (by omega)
      have g1 : ((n : Int) ≤ (q : Int)) = False := eq_false (by omega)
      by_cases hr : xh = r
      · subst hr
        by_cases hlen : tl = m
        · subst hlen
          refine wp_region_M o_emendateref30_Valid_1 (by kernel_rfl) (by kernel_rfl) (by intro c a d v w h; cases d <;> exact h) ?_; unfold o_emendateref30_Valid_1
          iterate 36 (refine wpF_h rfl rfl (fun K hK => ?_); go_simp; refine hK _ _ ?_; clear hK K)
          refine wpF_nil ?_
          go_wp2_with fail
          go_loopw [7] (fun i wr => ∃ j : Nat, j ≤ tl ∧ i = .int .i64 j ∧ Hid (∀ (i : Nat) d t, i < j → k[i]? = some d → xt[i]? = some t → PK.validD (EEs es) (toDT d) t = true) ∧ Fut wb wr) (fun i _ => tl - (intOf i).toNat)
          case atStart => exact ⟨0, Nat.zero_le _, rfl, Lib.hid (fun i d t h => by omega), (Fut.refl _).drew⟩
          case round =>
            obtain ⟨j, hj, rfl, hall, hF⟩ := hrel
            have HF2 := Lib.hid hF
            have p3 := hF.cell Q3.out
            by_cases hlt : j < tl
            · obtain ⟨y, hy⟩ := get_lt HM.out hlt
              obtain ⟨t, hty⟩ := get_lt HTL.out hlt
              obtain ⟨b1, o1, rfl, hd⟩ := HS.out j y hy
              obtain ⟨b2, o2, rfl, he⟩ := HT.out j t hty
              have HY := Lib.hid hy
              have HTY := Lib.hid hty
              have d0 := cell_fut (hF.cell (HF.out.cell (hd 0 _ (by decide) rfl)))
              have d1 := cell_fut (hF.cell (HF.out.cell (hd 1 _ (by decide) rfl)))
              have e0 := cell_fut (hF.cell (HF.out.cell he))
              simp only [Nat.add_zero] at d0
              have HC := Lib.hid (fun w' (hf : Fut wr w') => HI.out y (List.mem_of_getElem? hy) t w' (((HR.out.fut HF.out).fut hF).fut hf) ((((HK.out y (List.mem_of_getElem? hy)).fut HF.out).fut hF).fut hf))
              replace q1 := cell_fut (hF.cell Q1.out)
              replace q2 := cell_fut (hF.cell Q2.out)
              replace q3 := cell_fut p3
              have q0 := cell_fut (hF.cell Q0.out)
              replace c1 := cell_fut (hF.cell C1.out)
              obtain ⟨bb, hbb⟩ : ∃ bb, PK.validD (EEs es) (toDT y) t = bb := ⟨_, rfl⟩
              have HBB := Lib.hid hbb
              rw [hbb] at HC
              clear hy hty hd he hF hbb c0
              obtain ⟨ye, yA, yc, yk⟩ := y
              simp only [DI.e, DI.A, DI.c, DI.k] at d0 d1
              go_wp2_with fail
              refine wp_region_M o_emendateref30_Valid_6 (by kernel_rfl) (by kernel_rfl) (by intro c a d v w h; cases d <;> exact h) ?_; unfold o_emendateref30_Valid_6
              iterate 16 (refine wpF_h rfl rfl (fun K hK => ?_); go_simp; refine hK _ _ ?_; clear hK K)
              (refine wpF_o rfl rfl (fun K hK => ?_); go_simp; first | (go_at_call 12; refine (HC.out _ (by show Fut _ _; repeat (first | (with_reducible assumption) | exact Fut.refl _ | exact Fut.fut _ _ _ | refine Fut.drew ?_ | refine Fut.alloc ?_ _ | refine Fut.trans ?_ (Fut.fut _ _ _) | refine Fut.trans ?_ (by assumption)))).mono ?_; rintro e w1 ⟨rfl, hb1⟩; have hf1 : Fut _ w1 := hb1; refine hK _ _ (.inr hf1) ?_; clear hK K hb1))
              (refine wpF_h rfl rfl (fun K hK => ?_); go_simp; refine hK _ _ ?_; clear hK K)
              refine wpF_nil ?_
              cases bb with
              | true =>
                have HA := Lib.hid (show ∀ (i : Nat) d t, i < j + 1 → k[i]? = some d → xt[i]? = some t → PK.validD (EEs es) (toDT d) t = true from fun i d u h1 h2 h3 => by
                  by_cases e9 : i = j
                  · subst e9
                    rw [HY.out] at h2
                    rw [HTY.out] at h3
                    obtain rfl := Option.some.inj h2
                    obtain rfl := Option.some.inj h3
                    exact HBB.out
                  · exact hall.out i d u (by omega) h2 h3)
                go_wp2_with fail
                exact ⟨⟨j + 1, by omega, by go_num, HA, HF2.out.trans (by show Fut _ _; repeat (first | (with_reducible assumption) | exact Fut.refl _ | exact Fut.fut _ _ _ | refine Fut.drew ?_ | refine Fut.alloc ?_ _ | refine Fut.trans ?_ (Fut.fut _ _ _) | refine Fut.trans ?_ (by assumption)))⟩, by simp [intOf]; omega⟩
              | false =>
                have HA := Lib.hid (show PK.validD (EEs es) (.node (q : Int) (k.map toDT)) xh = false from by
                  cases h9 : PK.validD (EEs es) (.node (q : Int) (k.map toDT)) xh with
                  | false => rfl
                  | true =>
                    have h8 := ((HG.out (HTL.out.trans HM.out.symm)).1 h9).2 j _ _ HY.out HTY.out
                    rw [HBB.out] at h8; cases h8)
                go_wp2_with fail
                go_ret
                exact ⟨by rw [HA.out]; rfl, HF.out.trans (HF2.out.trans (by show Fut _ _; repeat (first | (with_reducible assumption) | exact Fut.refl _ | exact Fut.fut _ _ _ | refine Fut.drew ?_ | refine Fut.alloc ?_ _ | refine Fut.trans ?_ (Fut.fut _ _ _) | refine Fut.trans ?_ (by assumption))))⟩
            · have HA := Lib.hid ((HG.out (HTL.out.trans HM.out.symm)).2 ⟨by first | rfl | trivial, fun i d t h2 h3 => hall.out i d t (by
                have := (List.getElem?_eq_some_iff.1 h2).1
                rw [HM.out] at this; omega) h2 h3⟩)
              clear q1 q2 q3 c0 c1
              go_wp2_with fail
              go_ret
              exact ⟨by rw [HA.out]; rfl, HF.out.trans HF2.out⟩
        · have HA := Lib.hid (HB.out (.inr (by rw [List.length_map, HM.out, HTL.out]; exact hlen)))
          have hxx : ¬ (m : Int) = (tl : Int) := by omega
          obtain ⟨x1, x2, x3⟩ := cmpF_no hxx
          clear hxx hlen
          refine wp_region_M o_emendateref30_Valid_1 (by kernel_rfl) (by kernel_rfl) (by intro c a d v w h; cases d <;> exact h) ?_; unfold o_emendateref30_Valid_1
          iterate 36 (refine wpF_h rfl rfl (fun K hK => ?_); go_simp; refine hK _ _ ?_; clear hK K)
          refine wpF_nil ?_
          go_wp2_with fail
          go_ret
          exact ⟨by rw [HA.out]; rfl, HF.out.trans (by show Fut _ _; repeat (first | (with_reducible assumption) | exact Fut.refl _ | exact Fut.fut _ _ _ | refine Fut.drew ?_ | refine Fut.alloc ?_ _ | refine Fut.trans ?_ (Fut.fut _ _ _) | refine Fut.trans ?_ (by assumption)))⟩
      · have HA := Lib.hid (HB.out (.inl (by
          have := HO.out.1
          omega)))
        obtain ⟨x1, x2, x3⟩ := cmpF_no hr
        clear hr
        refine wp_region_M o_emendateref30_Valid_1 (by kernel_rfl) (by kernel_rfl) (by intro c a d v w h; cases d <;> exact h) ?_; unfold o_emendateref30_Valid_1
        iterate 23 (refine wpF_h rfl rfl (fun K hK => ?_); go_simp; refine hK _ _ ?_; clear hK K)
        iterate 12 (refine wpF_hs2 rfl rfl (fun K hK => ?_); go_simp; refine hK _ _ ?_; clear hK K)
        (refine wpF_h rfl rfl (fun K hK => ?_); go_simp; refine hK _ _ ?_; clear hK K)
        refine wpF_nil ?_
        go_wp2_with fail
        go_ret
        exact ⟨by rw [HA.out]; rfl, HF.out.trans (by show Fut _ _; repeat (first | (with_reducible assumption) | exact Fut.refl _ | exact Fut.fut _ _ _ | refine Fut.drew ?_ | refine Fut.alloc ?_ _ | refine Fut.trans ?_ (Fut.fut _ _ _) | refine Fut.trans ?_ (by assumption)))⟩
    · have HA := Lib.hid (validD_out (r := r) (k := k.map toDT) (es := es) (e := e) (by rw [HL.out]; omega))
      by_cases h1 : e < 0
      · have g0 : (e < 0) = True := eq_true h1
        clear hin h1
        refine wp_region_M o_emendateref30_Valid_1 (by kernel_rfl) (by kernel_rfl) (by intro c a d v w h; cases d <;> exact h) ?_; unfold o_emendateref30_Valid_1
        iterate 4 (refine wpF_h rfl rfl (fun K hK => ?_); go_simp; refine hK _ _ ?_; clear hK K)
        iterate 6 (refine wpF_hs2 rfl rfl (fun K hK => ?_); go_simp; refine hK _ _ ?_; clear hK K)
        iterate 2 (refine wpF_h rfl rfl (fun K hK => ?_); go_simp; refine hK _ _ ?_; clear hK K)
        iterate 9 (refine wpF_hs2 rfl rfl (fun K hK => ?_); go_simp; refine hK _ _ ?_; clear hK K)
        iterate 2 (refine wpF_h rfl rfl (fun K hK => ?_); go_simp; refine hK _ _ ?_; clear hK K)
        iterate 12 (refine wpF_hs2 rfl rfl (fun K hK => ?_); go_simp; refine hK _ _ ?_; clear hK K)
        (refine wpF_h rfl rfl (fun K hK => ?_); go_simp; refine hK _ _ ?_; clear hK K)
        refine wpF_nil ?_
        go_wp2_with fail
        go_ret
        exact ⟨by rw [HA.out]; rfl, HF.out.trans (by show Fut _ _; repeat (first | (with_reducible assumption) | exact Fut.refl _ | exact Fut.fut _ _ _ | refine Fut.drew ?_ | refine Fut.alloc ?_ _ | refine Fut.trans ?_ (Fut.fut _ _ _) | refine Fut.trans ?_ (by assumption)))⟩
      · have g0 : (e < 0) = False := eq_false h1
        have g1 : ((n : Int) ≤ e) = True := eq_true (by omega)
        clear hin h1
        refine wp_region_M o_emendateref30_Valid_1 (by kernel_rfl) (by kernel_rfl) (by intro c a d v w h; cases d <;> exact h) ?_; unfold o_emendateref30_Valid_1
        iterate 12 (refine wpF_h rfl rfl (fun K hK => ?_); go_simp; refine hK _ _ ?_; clear hK K)
        iterate 9 (refine wpF_hs2 rfl rfl (fun K hK => ?_); go_simp; refine hK _ _ ?_; clear hK K)
        iterate 2 (refine wpF_h rfl rfl (fun K hK => ?_); go_simp; refine hK _ _ ?_; clear hK K)
        iterate 12 (refine wpF_hs2 rfl rfl (fun K hK => ?_); go_simp; refine hK _ _ ?_; clear hK K)
        (refine wpF_h rfl rfl (fun K hK => ?_); go_simp; refine hK _ _ ?_; clear hK K)
        refine wpF_nil ?_
        go_wp2_with fail
        go_ret
        exact ⟨by rw [HA.out]; rfl, HF.out.trans (by show Fut _ _; repeat (first | (with_reducible assumption) | exact Fut.refl _ | exact Fut.fut _ _ _ | refine Fut.drew ?_ | refine Fut.alloc ?_ _ | refine Fut.trans ?_ (Fut.fut _ _ _) | refine Fut.trans ?_ (by assumption)))⟩
end Go.Proofs.Ytfaekfonemobcaa
