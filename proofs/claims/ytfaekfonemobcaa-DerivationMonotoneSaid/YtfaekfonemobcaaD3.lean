/-
  Valid of derivations, as the program has it.
-/
import Derived.Test.YtfaekfonemobcaaD2
import Derived.Test.YtfaekfonemobcaaBlk
namespace Go.Proofs.Ytfaekfonemobcaa
open Go.RowKit
attribute [local go_sem] Oper.lit Oper.litS fut_fut fut_drew World.cell?_alloc_some
theorem edge_at {es : List EI} {j : Nat} {x : EI} (hx : es[j]? = some x) : PK.edge (EEs es) (j : Int) = some (toEE x) := by
  unfold PK.edge
  rw [if_pos (by omega), Int.toNat_natCast, List.getElem?_map, hx]; rfl
theorem validD_good {N : Int} {es : List EI} (hvd : validB N es = true) {j : Nat} {x : EI} {r : Int} {k : List DI} (hx : es[j]? = some x) (hl : x.t.length = k.length) : PK.validD (EEs es) (.node (j : Int) (k.map toDT)) r = true ↔ x.h = r ∧ ∀ (i : Nat) d t, k[i]? = some d → x.t[i]? = some t → PK.validD (EEs es) (toDT d) t = true := by
  obtain ⟨h1, _, _, _, h5⟩ := okE_parts ((validB_parts hvd).2.2 x (List.mem_of_getElem? hx))
  rw [PK.validD_iff]
  constructor
  · rintro ⟨E, e1, e2, e3, e4⟩
    rw [edge_at hx] at e1
    obtain rfl := Option.some.inj e1
    refine ⟨by rw [← e2]; unfold toEE; simp only; omega, fun i d t hd ht => ?_⟩
    have := e4 i (toDT d) t.toNat (by rw [List.getElem?_map, hd]; rfl) (by unfold toEE; simp only; rw [List.getElem?_map, ht]; rfl)
    rwa [Int.toNat_of_nonneg (h5 t (List.mem_of_getElem? ht)).1] at this
  · rintro ⟨e1, e2⟩
    refine ⟨toEE x, edge_at hx, by unfold toEE; simp only; omega, by unfold toEE; simp [hl], fun i d t hd ht => ?_⟩
    rw [List.getElem?_map] at hd
    obtain ⟨d', hd', rfl⟩ := Option.map_eq_some_iff.1 hd
    unfold toEE at ht
    simp only [List.getElem?_map] at ht
    obtain ⟨t', ht', rfl⟩ := Option.map_eq_some_iff.1 ht
    rw [Int.toNat_of_nonneg (h5 t' (List.mem_of_getElem? ht')).1]
    exact e2 i d' t' hd' ht'
theorem validD_out {es : List EI} {e r : Int} {k : List PK.DT} (h : e < 0 ∨ (es.length : Int) ≤ e) : PK.validD (EEs es) (.node e k) r = false := by
  cases h9 : PK.validD (EEs es) (.node e k) r with
  | false => rfl
  | true =>
    obtain ⟨E, e1, _⟩ := (PK.validD_iff _ _ _ _).1 h9
    unfold PK.edge at e1
    split at e1
    · rw [List.getElem?_eq_none (by rw [List.length_map]; omega)] at e1; cases e1
    · cases e1
theorem validD_bad {es : List EI} {j : Nat} {x : EI} {r : Int} {k : List PK.DT} (hx : es[j]? = some x) (h : ¬ ((x.h.toNat : Nat) : Int) = r ∨ ¬ x.t.length = k.length) : PK.validD (EEs es) (.node (j : Int) k) r = false := by
  cases h9 : PK.validD (EEs es) (.node (j : Int) k) r with
  | false => rfl
  | true =>
    obtain ⟨E, e1, e2, e3, _⟩ := (PK.validD_iff _ _ _ _).1 h9
    rw [edge_at hx] at e1
    obtain rfl := Option.some.inj e1
    rcases h with h | h
    · exact absurd e2 h
    · exact absurd (by rw [← e3]; unfold toEE; simp) h
set_option maxHeartbeats 6400000 in
theorem dvalid_any (N : Int) (A : Option Addr) (n c : Nat) (es : List EI) (hl : es.length = n) (hn : n ≤ maxLen) (hvd : validB N es = true) (d : DI) : ∀ (r : Int) w, RdE w A es → RdD w d →
    Calls Try.prog 13 #[hv N A n c, .int .i64 r, dv d] w fun q w' => q = .returned (.bool (PK.validD (EEs es) (toDT d) r)) ∧ Below w.heap.size w w' := by
  have HL := Lib.hid hl
  have HVD := Lib.hid hvd
  have hn63 : n ≤ 9223372036854775807 := hn
  clear hl hvd hn
  induction d using DI.ind with
  | h e B d k ih =>
    intro r w hR hRD
    obtain ⟨hS, hkl, hK⟩ := hRD.parts
    have HR := Lib.hid hR
    have HS := Lib.hid hS
    have HK := Lib.hid hK
    have HI := Lib.hid ih
    obtain ⟨m, hm⟩ : ∃ m, k.length = m := ⟨_, rfl⟩
    have hm63 : m ≤ 9223372036854775807 := hm ▸ hkl
    have HM := Lib.hid hm
    simp only [dv, DI.e, DI.A, DI.c, DI.k, hm]
    rw [toDT_eq]
    clear hS hK hR ih hkl hm hRD
    by_cases hin : 0 ≤ e ∧ e < (n : Int)
    · obtain ⟨q, rfl⟩ : ∃ q : Nat, e = q := ⟨e.toNat, by omega⟩
      have hq : q < n := by omega
      obtain ⟨x, hx⟩ := get_lt HL.out hq
      obtain ⟨b, o, rfl, hc⟩ := HR.out.1 q x hx
      obtain ⟨ht, htl⟩ := (HR.out.2 x (List.mem_of_getElem? hx))
      have HX := Lib.hid hx
      have HT := Lib.hid ht
      have HO := Lib.hid (okE_parts ((validB_parts HVD.out).2.2 x (List.mem_of_getElem? hx)))
      have c0 := hc 0 _ (by decide) rfl
      have c1 := hc 1 _ (by decide) rfl
      have c2 := hc 2 _ (by decide) rfl
      have c3 := hc 3 _ (by decide) rfl
      have c4 := hc 4 _ (by decide) rfl
      simp only [Nat.add_zero] at c0
      have HG := Lib.hid (fun hl : x.t.length = k.length => validD_good (r := r) HVD.out hx hl)
      have HB := Lib.hid (fun h => validD_bad (r := r) (k := k.map toDT) hx h)
      clear hin hx hc ht
      obtain ⟨xh, xt, xc, xl0, xl1, xA, xk⟩ := x
      simp only at c0 c1 c2 c3 c4 HT HO HG HB htl
      obtain ⟨tl, htl2⟩ : ∃ tl, xt.length = tl := ⟨_, rfl⟩
      rw [htl2] at c1 htl
      have htl63 : tl ≤ 9223372036854775807 := htl
      have HTL := Lib.hid htl2
      clear htl htl2
      generalize PK.validD (EEs es) (.node (q : Int) (k.map toDT)) r = res at HG HB ⊢
      by_cases hr : xh = r
      · subst hr
        by_cases hlen : tl = m
        · subst hlen
          have hqn : ¬ ((q : Int) < 0) := by omega
          go_enter Try.func13, Try.ntmps13
          go_wp2_with fail
          have HF := Lib.hid (show Fut w (((w.alloc (.cells #[.int .i64 N, .slice (some ⟨b, o, none⟩) n c] 24)).alloc (.cells #[.int .i64 q, .slice B tl d] 27)).alloc (.cells #[.int .i64 xh, .slice xA tl xk, .int .i64 xc, .int .i64 xl0, .int .i64 xl1] 49)) from (((Fut.refl w).alloc _).alloc _).alloc _)
          have Q0 := Lib.hid (show (((w.alloc (.cells #[.int .i64 N, .slice (some ⟨b, o, none⟩) n c] 24)).alloc (.cells #[.int .i64 q, .slice B tl d] 27)).alloc (.cells #[.int .i64 xh, .slice xA tl xk, .int .i64 xc, .int .i64 xl0, .int .i64 xl1] 49)).cell? ⟨w.heap.size, 0, none⟩ = some (.int .i64 N) from by (repeat (first | exact (cell_al_new _ _ _ _ _ _ (by first | rfl | (simp only [World.size_alloc]))).trans rfl | refine (cell_al_old _ _ _ (by first | omega | (simp only [World.size_alloc]; omega))).trans ?_)))
          have Q1 := Lib.hid (show (((w.alloc (.cells #[.int .i64 N, .slice (some ⟨b, o, none⟩) n c] 24)).alloc (.cells #[.int .i64 q, .slice B tl d] 27)).alloc (.cells #[.int .i64 xh, .slice xA tl xk, .int .i64 xc, .int .i64 xl0, .int .i64 xl1] 49)).cell? ⟨w.heap.size, 1, none⟩ = some (.slice (some ⟨b, o, none⟩) n c) from by (repeat (first | exact (cell_al_new _ _ _ _ _ _ (by first | rfl | (simp only [World.size_alloc]))).trans rfl | refine (cell_al_old _ _ _ (by first | omega | (simp only [World.size_alloc]; omega))).trans ?_)))
          have Q2 := Lib.hid (show (((w.alloc (.cells #[.int .i64 N, .slice (some ⟨b, o, none⟩) n c] 24)).alloc (.cells #[.int .i64 q, .slice B tl d] 27)).alloc (.cells #[.int .i64 xh, .slice xA tl xk, .int .i64 xc, .int .i64 xl0, .int .i64 xl1] 49)).cell? ⟨w.heap.size + 1 + 1, 1, none⟩ = some (.slice xA tl xk) from by (repeat (first | exact (cell_al_new _ _ _ _ _ _ (by first | rfl | (simp only [World.size_alloc]))).trans rfl | refine (cell_al_old _ _ _ (by first | omega | (simp only [World.size_alloc]; omega))).trans ?_)))
          clear c0 c1 c2 c3 c4
          generalize ((w.alloc (.cells #[.int .i64 N, .slice (some ⟨b, o, none⟩) n c] 24)).alloc (.cells #[.int .i64 q, .slice B tl d] 27)).alloc (.cells #[.int .i64 xh, .slice xA tl xk, .int .i64 xc, .int .i64 xl0, .int .i64 xl1] 49) = wb at *
          go_loopw [43] (fun i wr => ∃ j : Nat, j ≤ tl ∧ i = .int .i64 j ∧ Hid (∀ (i : Nat) d t, i < j → k[i]? = some d → xt[i]? = some t → PK.validD (EEs es) (toDT d) t = true) ∧ Fut wb wr) (fun i _ => tl - (intOf i).toNat)
          case atStart => exact ⟨0, Nat.zero_le _, rfl, Lib.hid (fun i d t h => by omega), Fut.refl _⟩
          case round =>
            obtain ⟨j, hj, rfl, hall, hF⟩ := hrel
            have HF2 := Lib.hid hF
            by_cases hlt : j < tl
            · obtain ⟨y, hy⟩ := get_lt HM.out hlt
              obtain ⟨t, hty⟩ := get_lt HTL.out hlt
              obtain ⟨b1, o1, rfl, hd⟩ := HS.out j y hy
              obtain ⟨b2, o2, rfl, he⟩ := HT.out j t hty
              have HY := Lib.hid hy
              have HTY := Lib.hid hty
              have d0 := hF.cell (HF.out.cell (hd 0 _ (by decide) rfl))
              have d1 := hF.cell (HF.out.cell (hd 1 _ (by decide) rfl))
              have e0 := hF.cell (HF.out.cell he)
              simp only [Nat.add_zero] at d0
              have HC := Lib.hid (fun w' (hf : Fut wr w') => HI.out y (List.mem_of_getElem? hy) t w' (((HR.out.fut HF.out).fut hF).fut hf) ((((HK.out y (List.mem_of_getElem? hy)).fut HF.out).fut hF).fut hf))
              have q0 := hF.cell Q0.out
              have q1 := hF.cell Q1.out
              have q2 := hF.cell Q2.out
              obtain ⟨bb, hbb⟩ : ∃ bb, PK.validD (EEs es) (toDT y) t = bb := ⟨_, rfl⟩
              have HBB := Lib.hid hbb
              rw [hbb] at HC
              clear hy hty hd he hF hbb
              obtain ⟨ye, yA, yc, yk⟩ := y
              simp only [DI.e, DI.A, DI.c, DI.k] at d0 d1
              go_wp2_with fail
              have f1 := (Fut.refl wr).alloc (.cells #[.int .i64 ye, .slice yA yk.length yc] 27)
              have k0 : (wr.alloc (.cells #[.int .i64 ye, .slice yA yk.length yc] 27)).cell? ⟨wr.heap.size, 0, none⟩ = some (.int .i64 ye) := by (repeat (first | exact (cell_al_new _ _ _ _ _ _ (by first | rfl | (simp only [World.size_alloc]))).trans rfl | refine (cell_al_old _ _ _ (by first | omega | (simp only [World.size_alloc]; omega))).trans ?_))
              have k1 : (wr.alloc (.cells #[.int .i64 ye, .slice yA yk.length yc] 27)).cell? ⟨wr.heap.size, 1, none⟩ = some (.slice yA yk.length yc) := by (repeat (first | exact (cell_al_new _ _ _ _ _ _ (by first | rfl | (simp only [World.size_alloc]))).trans rfl | refine (cell_al_old _ _ _ (by first | omega | (simp only [World.size_alloc]; omega))).trans ?_))
              replace e0 := cell_fut (f1.cell e0)
              replace q0 := cell_fut (f1.cell q0)
              replace q1 := cell_fut (f1.cell q1)
              replace q2 := cell_fut (f1.cell q2)
              replace k0 := cell_fut k0
              replace k1 := cell_fut k1
              have HF3 := Lib.hid f1
              generalize wr.alloc (.cells #[.int .i64 ye, .slice yA yk.length yc] 27) = wi at *
              clear f1 d0 d1
              refine wp_region_M o_derivation_Valid_9 (by kernel_rfl) (by kernel_rfl) (by intro c a d v w h; cases d <;> exact h) ?_; unfold o_derivation_Valid_9
              iterate 7 (refine wpF_h rfl rfl (fun K hK => ?_); go_simp; refine hK _ _ ?_; clear hK K)
              (refine wpF_o rfl rfl (fun K hK => ?_); go_simp; first | (go_at_call 13; refine (HC.out _ (HF3.out.trans (by show Fut _ _; repeat (first | (with_reducible assumption) | exact Fut.refl _ | exact Fut.fut _ _ _ | refine Fut.drew ?_ | refine Fut.alloc ?_ _ | refine Fut.trans ?_ (Fut.fut _ _ _) | refine Fut.trans ?_ (by assumption))))).mono ?_; rintro e w1 ⟨rfl, hb1⟩; have hf1 : Fut _ w1 := hb1; refine hK _ _ (.inr hf1) ?_; clear hK K hb1))
              (refine wpF_h rfl rfl (fun K hK => ?_); go_simp; refine hK _ _ ?_; clear hK K)
              refine wpF_nil ?_
              cases bb with
              | true =>
                have HA := Lib.hid (show ∀ (i : Nat) d t, i < j + 1 → k[i]? = some d → xt[i]? = some t → PK.validD (EEs es) (toDT d) t = true from fun i d u h1 h2 h3 => by
                  by_cases e9 : i = j
                  · subst e9
                    rw [HY.out] at h2
                    rw [HTY.out] at h3
                    obtain rfl := Option.some.inj h2
                    obtain rfl := Option.some.inj h3
                    exact HBB.out
                  · exact hall.out i d u (by omega) h2 h3)
                go_wp2_with fail
                exact ⟨⟨j + 1, by omega, by go_num, HA, HF2.out.trans (HF3.out.trans (by show Fut _ _; repeat (first | (with_reducible assumption) | exact Fut.refl _ | exact Fut.fut _ _ _ | refine Fut.drew ?_ | refine Fut.alloc ?_ _ | refine Fut.trans ?_ (Fut.fut _ _ _) | refine Fut.trans ?_ (by assumption))))⟩, by simp [intOf]; omega⟩
              | false =>
                have HA := Lib.hid (show res = false from by
                  cases h9 : res with
                  | false => rfl
                  | true =>
                    have h8 := ((HG.out (HTL.out.trans HM.out.symm)).1 h9).2 j _ _ HY.out HTY.out
                    rw [HBB.out] at h8; cases h8)
                go_wp2_with fail
                go_ret
                exact ⟨by rw [HA.out]; rfl, HF.out.trans (HF2.out.trans (HF3.out.trans (by show Fut _ _; repeat (first | (with_reducible assumption) | exact Fut.refl _ | exact Fut.fut _ _ _ | refine Fut.drew ?_ | refine Fut.alloc ?_ _ | refine Fut.trans ?_ (Fut.fut _ _ _) | refine Fut.trans ?_ (by assumption)))))⟩
            · have HA := Lib.hid ((HG.out (HTL.out.trans HM.out.symm)).2 ⟨by first | rfl | trivial, fun i d t h2 h3 => hall.out i d t (by
                have := (List.getElem?_eq_some_iff.1 h2).1
                rw [HM.out] at this; omega) h2 h3⟩)
              go_wp2_with fail
              go_ret
              exact ⟨by rw [HA.out]; rfl, HF.out.trans HF2.out⟩
        · have HA := Lib.hid (HB.out (.inr (by rw [List.length_map, HM.out, HTL.out]; exact hlen)))
          have hxx : ¬ (tl : Int) = (m : Int) := by omega
          obtain ⟨x1, x2, x3⟩ := cmpF_no hxx
          clear hxx hlen
          have hqn : ¬ ((q : Int) < 0) := by omega
          go_enter Try.func13, Try.ntmps13
          go_wp2_with fail
          go_ret
          exact ⟨by rw [HA.out]; rfl, (((Fut.refl w).alloc _).alloc _).alloc _⟩
      · have HA := Lib.hid (HB.out (.inl (by
          have := HO.out.1
          omega)))
        obtain ⟨x1, x2, x3⟩ := cmpF_no hr
        clear hr
        have hqn : ¬ ((q : Int) < 0) := by omega
        go_enter Try.func13, Try.ntmps13
        go_wp2_with fail
        go_ret
        exact ⟨by rw [HA.out]; rfl, (((Fut.refl w).alloc _).alloc _).alloc _⟩
    · have HA := Lib.hid (validD_out (r := r) (k := k.map toDT) (es := es) (e := e) (by rw [HL.out]; omega))
      have hg : e < 0 ∨ (¬ e < 0 ∧ (n : Int) ≤ e) := by omega
      clear hin
      rcases hg with h1 | ⟨h1, h2⟩
      all_goals
        go_enter Try.func13, Try.ntmps13
        go_wp2_with fail
        go_ret
        exact ⟨by rw [HA.out]; rfl, ((Fut.refl w).alloc _).alloc _⟩
end Go.Proofs.Ytfaekfonemobcaa
