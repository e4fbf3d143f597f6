/-
  Compare of derivations, as the reference has it.
-/
import Derived.Test.YtfaekfonemobcaaD6
import Derived.Test.YtfaekfonemobcaaD7
namespace Go.Proofs.Ytfaekfonemobcaa
open Go.RowKit Go.Deep PK
attribute [local go_sem] Oper.lit Oper.litS fut_fut fut_drew World.cell?_alloc_some
attribute [local go_sem] World.frozen?_setCell
set_option maxHeartbeats 12800000 in
theorem rdcmp_any (N : Int) (A : Option Addr) (n c : Nat) (es : List EI) (hl : es.length = n) (hn : n ≤ maxLen) (hvd : validB N es = true) (htl : ∀ e ∈ es, e.t.length ≤ 1000000) (a : DI) : ∀ (b : DI) (r : Int) w, PK.validD (EEs es) (toDT a) r = true → PK.validD (EEs es) (toDT b) r = true → RdE w A es → RdD w a → RdD w b →
    Calls Try.prog 17 #[hv N A n c, dv a, dv b] w fun q w' => q = .returned (.int .i64 (cmpD (EEs es) (toDT a) (toDT b))) ∧ Below w.heap.size w w' := by
  have HVA := Lib.hid (fun (d : DI) r w => rdvalue_any N A n c es hl hn hvd htl d r w)
  have HVD := Lib.hid hvd
  clear hl hvd hn htl
  induction a using DI.ind with
  | h e B d k ih =>
    rintro ⟨f, C, g, l⟩ r w hv1 hv2 hR hRD hRD2
    have HVA1 := Lib.hid (fun w' (hf : Fut w w') => HVA.out (.node e B d k) r w' hv1 (hR.fut hf) (hRD.fut hf))
    have HVA2 := Lib.hid (fun w' (hf : Fut w w') => HVA.out (.node f C g l) r w' hv2 (hR.fut hf) (hRD2.fut hf))
    obtain ⟨hS, hkl, hK⟩ := hRD.parts
    obtain ⟨hS2, hll, hK2⟩ := hRD2.parts
    rw [toDT_eq] at hv1 hv2
    have HKB := Lib.hid (kids_both HVD.out hv1 hv2)
    have HR := Lib.hid hR
    have HS := Lib.hid hS
    have HK := Lib.hid hK
    have HS2 := Lib.hid hS2
    have HK2 := Lib.hid hK2
    have HI := Lib.hid ih
    obtain ⟨m, hm⟩ : ∃ m, k.length = m := ⟨_, rfl⟩
    obtain ⟨p, hp⟩ : ∃ p, l.length = p := ⟨_, rfl⟩
    have hm63 : m ≤ 9223372036854775807 := hm ▸ hkl
    have hp63 : p ≤ 9223372036854775807 := hp ▸ hll
    have HM := Lib.hid hm
    have HP := Lib.hid hp
    have HCD := Lib.hid (show cmpD (EEs es) (toDT (.node e B d k)) (toDT (.node f C g l)) = if cmpV (val (EEs es) (toDT (.node e B d k))) (val (EEs es) (toDT (.node f C g l))) ≠ 0 then cmpV (val (EEs es) (toDT (.node e B d k))) (val (EEs es) (toDT (.node f C g l))) else if cmpI e f ≠ 0 then cmpI e f else cmpL (EEs es) (k.map toDT) (l.map toDT) from by rw [toDT_eq, toDT_eq, cmpD])
    have HZ := Lib.hid (show cmpV (val (EEs es) (toDT (.node e B d k))) (val (EEs es) (toDT (.node f C g l))) = if ltV (val (EEs es) (toDT (.node e B d k))) (val (EEs es) (toDT (.node f C g l))) = true then -1 else if ltV (val (EEs es) (toDT (.node f C g l))) (val (EEs es) (toDT (.node e B d k))) = true then 1 else 0 from rfl)
    have HLT := Lib.hid (fun w' => rless_any (val (EEs es) (toDT (.node e B d k))) (val (EEs es) (toDT (.node f C g l))) w')
    have HGT := Lib.hid (fun w' => rless_any (val (EEs es) (toDT (.node f C g l))) (val (EEs es) (toDT (.node e B d k))) w')
    generalize ltV (val (EEs es) (toDT (.node e B d k))) (val (EEs es) (toDT (.node f C g l))) = lt at HZ HLT
    generalize ltV (val (EEs es) (toDT (.node f C g l))) (val (EEs es) (toDT (.node e B d k))) = gt at HZ HGT
    generalize cmpD (EEs es) (toDT (.node e B d k)) (toDT (.node f C g l)) = res at HCD ⊢
    generalize cmpV (val (EEs es) (toDT (.node e B d k))) (val (EEs es) (toDT (.node f C g l))) = z at HCD HZ
    generalize val (EEs es) (toDT (.node e B d k)) = v1 at HVA1 HLT HGT
    generalize val (EEs es) (toDT (.node f C g l)) = v2 at HVA2 HLT HGT
    obtain ⟨v1c, v1s⟩ := v1
    obtain ⟨v2c, v2s⟩ := v2
    have HVA1' := Lib.hid (show ∀ w', Fut w w' → Calls Try.prog 15 #[hv N A n c, .agg #[.int .i64 e, .slice B m d]] w' fun q w2 => q = .returned (vv ⟨v1c, v1s⟩) ∧ Below w'.heap.size w' w2 from fun w' hf => by rw [← HM.out]; exact HVA1.out w' hf)
    have HVA2' := Lib.hid (show ∀ w', Fut w w' → Calls Try.prog 15 #[hv N A n c, .agg #[.int .i64 f, .slice C p g]] w' fun q w2 => q = .returned (vv ⟨v2c, v2s⟩) ∧ Below w'.heap.size w' w2 from fun w' hf => by rw [← HP.out]; exact HVA2.out w' hf)
    simp only [dv, DI.e, DI.A, DI.c, DI.k, hm, hp]
    clear hS hK hS2 hK2 hR ih hkl hll hm hp hRD hRD2 hv1 hv2 HVA1 HVA2
    have HF := Lib.hid (show Fut w (((w.alloc (.cells #[.int .i64 N, .slice A n c] 24)).alloc (.cells #[.int .i64 e, .slice B m d] 27)).alloc (.cells #[.int .i64 f, .slice C p g] 27)) from (((Fut.refl w).alloc _).alloc _).alloc _)
    have Q0 := Lib.hid (show (((w.alloc (.cells #[.int .i64 N, .slice A n c] 24)).alloc (.cells #[.int .i64 e, .slice B m d] 27)).alloc (.cells #[.int .i64 f, .slice C p g] 27)).cell? ⟨w.heap.size, 0, none⟩ = some (.int .i64 N) from by (repeat (first | exact (cell_al_new _ _ _ _ _ _ (by first | rfl | (simp only [World.size_alloc]))).trans rfl | refine (cell_al_old _ _ _ (by first | omega | (simp only [World.size_alloc]; omega))).trans ?_)))
    have Q1 := Lib.hid (show (((w.alloc (.cells #[.int .i64 N, .slice A n c] 24)).alloc (.cells #[.int .i64 e, .slice B m d] 27)).alloc (.cells #[.int .i64 f, .slice C p g] 27)).cell? ⟨w.heap.size, 1, none⟩ = some (.slice A n c) from by (repeat (first | exact (cell_al_new _ _ _ _ _ _ (by first | rfl | (simp only [World.size_alloc]))).trans rfl | refine (cell_al_old _ _ _ (by first | omega | (simp only [World.size_alloc]; omega))).trans ?_)))
    have Q2 := Lib.hid (show (((w.alloc (.cells #[.int .i64 N, .slice A n c] 24)).alloc (.cells #[.int .i64 e, .slice B m d] 27)).alloc (.cells #[.int .i64 f, .slice C p g] 27)).cell? ⟨w.heap.size + 1, 0, none⟩ = some (.int .i64 e) from by (repeat (first | exact (cell_al_new _ _ _ _ _ _ (by first | rfl | (simp only [World.size_alloc]))).trans rfl | refine (cell_al_old _ _ _ (by first | omega | (simp only [World.size_alloc]; omega))).trans ?_)))
    have Q3 := Lib.hid (show (((w.alloc (.cells #[.int .i64 N, .slice A n c] 24)).alloc (.cells #[.int .i64 e, .slice B m d] 27)).alloc (.cells #[.int .i64 f, .slice C p g] 27)).cell? ⟨w.heap.size + 1, 1, none⟩ = some (.slice B m d) from by (repeat (first | exact (cell_al_new _ _ _ _ _ _ (by first | rfl | (simp only [World.size_alloc]))).trans rfl | refine (cell_al_old _ _ _ (by first | omega | (simp only [World.size_alloc]; omega))).trans ?_)))
    have Q4 := Lib.hid (show (((w.alloc (.cells #[.int .i64 N, .slice A n c] 24)).alloc (.cells #[.int .i64 e, .slice B m d] 27)).alloc (.cells #[.int .i64 f, .slice C p g] 27)).cell? ⟨w.heap.size + 1 + 1, 0, none⟩ = some (.int .i64 f) from by (repeat (first | exact (cell_al_new _ _ _ _ _ _ (by first | rfl | (simp only [World.size_alloc]))).trans rfl | refine (cell_al_old _ _ _ (by first | omega | (simp only [World.size_alloc]; omega))).trans ?_)))
    have Q5 := Lib.hid (show (((w.alloc (.cells #[.int .i64 N, .slice A n c] 24)).alloc (.cells #[.int .i64 e, .slice B m d] 27)).alloc (.cells #[.int .i64 f, .slice C p g] 27)).cell? ⟨w.heap.size + 1 + 1, 1, none⟩ = some (.slice C p g) from by (repeat (first | exact (cell_al_new _ _ _ _ _ _ (by first | rfl | (simp only [World.size_alloc]))).trans rfl | refine (cell_al_old _ _ _ (by first | omega | (simp only [World.size_alloc]; omega))).trans ?_)))
    go_enter Try.func17, Try.ntmps17
    go_wp2_with fail
    generalize ((w.alloc (.cells #[.int .i64 N, .slice A n c] 24)).alloc (.cells #[.int .i64 e, .slice B m d] 27)).alloc (.cells #[.int .i64 f, .slice C p g] 27) = wb at *
    have q0 := cell_fut Q0.out
    have q1 := cell_fut Q1.out
    have q2 := cell_fut Q2.out
    have q3 := cell_fut Q3.out
    have q4 := cell_fut Q4.out
    have q5 := cell_fut Q5.out
    rename_i Q' K hcont
    have cont : ∀ (xb yb : Nat) (w1 : World), Hid (Fut wb w1 ∧ Blk w1 xb 34 #[.int .i64 v1c, .int .i64 v1s] ∧ Blk w1 yb 34 #[.int .i64 v2c, .int .i64 v2s]) → K { tmps := #[hv N A n c, .agg #[.int .i64 e, .slice B m d], .agg #[.int .i64 f, .slice C p g], .pointer (some ⟨w.heap.size, 0, none⟩), .pointer (some ⟨w.heap.size + 1, 0, none⟩), .pointer (some ⟨w.heap.size + 1 + 1, 0, none⟩), .int .i64 0, .pointer (some ⟨xb, 0, none⟩), .pointer (some ⟨yb, 0, none⟩), undef, undef, hv N A n c, .agg #[.int .i64 e, .slice B m d], vv ⟨v1c, v1s⟩, hv N A n c, .agg #[.int .i64 f, .slice C p g], vv ⟨v2c, v2s⟩, undef, undef, undef, undef, undef, undef, undef, undef, undef, undef, undef, undef, undef, undef, undef, undef, undef, undef, undef, undef, undef, undef, undef, undef, undef, undef, undef, undef, undef, undef, undef, undef, undef, undef, undef, undef, undef, undef], defers := [] } w1 := by
      as_aux_lemma =>
        intro xb yb w1 HW1
        refine hcont _ _ ?_
        clear hcont
        obtain ⟨hf3, hbx, hby⟩ := HW1.out
        have HF3 := Lib.hid hf3
        have HBX := Lib.hid hbx
        have HBY := Lib.hid hby
        clear hf3 hbx hby HW1
        have x0 := HBX.out.cell (i := 0) rfl
        have x1 := HBX.out.cell (i := 1) rfl
        have y0 := HBY.out.cell (i := 0) rfl
        have y1 := HBY.out.cell (i := 1) rfl
        go_wp2_with fail
        refine (HLT.out _).mono ?_
        rintro r1 w2 ⟨rfl, hb⟩
        have f1 : Fut w1 w2 := hb
        have HF4 := Lib.hid (HF3.out.trans f1)
        replace x0 := (HBX.out.fut f1).cell (i := 0) rfl
        replace x1 := (HBX.out.fut f1).cell (i := 1) rfl
        replace y0 := (HBY.out.fut f1).cell (i := 0) rfl
        replace y1 := (HBY.out.fut f1).cell (i := 1) rfl
        clear hb f1
        cases lt with
        | true =>
          have HA := Lib.hid (show res = -1 from by rw [HCD.out, HZ.out]; simp)
          go_wp2_with fail
          go_ret
          exact ⟨by rw [HA.out]; rfl, HF.out.trans HF4.out⟩
        | false =>
          go_wp2_with fail
          refine (HGT.out _).mono ?_
          rintro r1 w3 ⟨rfl, hb⟩
          have f1 : Fut w2 w3 := hb
          have HF5 := Lib.hid (HF4.out.trans f1)
          clear hb f1 x0 x1 y0 y1
          cases gt with
          | true =>
            have HA := Lib.hid (show res = 1 from by rw [HCD.out, HZ.out]; simp)
            go_wp2_with fail
            go_ret
            exact ⟨by rw [HA.out]; rfl, HF.out.trans HF5.out⟩
          | false =>
            have hz0 : z = 0 := by rw [HZ.out]; simp
            subst hz0
            have p2 := HF5.out.cell Q2.out
            have p3 := HF5.out.cell Q3.out
            have p4 := HF5.out.cell Q4.out
            by_cases hef : e = f
            · obtain ⟨hmp, hkb⟩ := HKB.out hef
              have HKB2 := Lib.hid hkb
              rw [HM.out, HP.out] at hmp
              subst hef
              subst hmp
              have HC2 := Lib.hid (show res = cmpL (EEs es) (k.map toDT) (l.map toDT) from by rw [HCD.out]; simp [(cmpI_zero (a := e) (b := e)).2 rfl])
              clear hkb HKB
              go_wp2_with fail
              clear p2 p3 p4
              go_loopw [9] (fun i wr => ∃ j : Nat, j ≤ m ∧ i = .int .i64 j ∧ Hid (cmpL (EEs es) (k.map toDT) (l.map toDT) = cmpL (EEs es) ((k.map toDT).drop j) ((l.map toDT).drop j)) ∧ Fut wb wr) (fun i _ => m - (intOf i).toNat)
              case atStart => exact ⟨0, Nat.zero_le _, rfl, Lib.hid rfl, HF5.out⟩
              case round =>
                obtain ⟨j, hj, rfl, hall, hF⟩ := hrel
                have HFR := Lib.hid hF
                have q3 := hF.cell Q3.out
                by_cases hlt : j < m
                · obtain ⟨x, hx⟩ := get_lt HM.out hlt
                  obtain ⟨y, hy⟩ := get_lt HP.out hlt
                  obtain ⟨b1, o1, rfl, hd⟩ := HS.out j x hx
                  obtain ⟨b2, o2, rfl, he⟩ := HS2.out j y hy
                  have d0 := cell_fut (hF.cell (HF.out.cell (hd 0 _ (by decide) rfl)))
                  have d1 := cell_fut (hF.cell (HF.out.cell (hd 1 _ (by decide) rfl)))
                  have e0 := cell_fut (hF.cell (HF.out.cell (he 0 _ (by decide) rfl)))
                  have e1 := cell_fut (hF.cell (HF.out.cell (he 1 _ (by decide) rfl)))
                  simp only [Nat.add_zero] at d0 e0
                  obtain ⟨t, ht1, ht2⟩ := HKB2.out j x y hx hy
                  have HC := Lib.hid (fun w' (hf : Fut wr w') => HI.out x (List.mem_of_getElem? hx) y t w' ht1 ht2 (((HR.out.fut HF.out).fut hF).fut hf) ((((HK.out x (List.mem_of_getElem? hx)).fut HF.out).fut hF).fut hf) ((((HK2.out y (List.mem_of_getElem? hy)).fut HF.out).fut hF).fut hf))
                  have HAT := Lib.hid (cmpL_at (EEs es) (k.map toDT) (l.map toDT) j (toDT x) (toDT y) (by rw [List.getElem?_map, hx]; rfl) (by rw [List.getElem?_map, hy]; rfl))
                  generalize cmpD (EEs es) (toDT x) (toDT y) = zz at HC HAT
                  have q0 := cell_fut (hF.cell Q0.out)
                  have q1 := cell_fut (hF.cell Q1.out)
                  have q3' := cell_fut q3
                  have q5 := cell_fut (hF.cell Q5.out)
                  clear hx hy hd he hF ht1 ht2
                  obtain ⟨xe, xA, xc, xk⟩ := x
                  obtain ⟨ye, yA, yc, yk⟩ := y
                  simp only [DI.e, DI.A, DI.c, DI.k] at d0 d1 e0 e1
                  go_wp2_with fail
                  refine wp_region_M o_emendateref30_Compare_13 (by kernel_rfl) (by kernel_rfl) (by intro c a d v w h; cases d <;> exact h) ?_; unfold o_emendateref30_Compare_13
                  iterate 11 (refine wpF_h rfl rfl (fun K hK => ?_); go_simp; refine hK _ _ ?_; clear hK K)
                  (refine wpF_o rfl rfl (fun K hK => ?_); go_simp; first | (go_at_call 17; refine (HC.out _ (by show Fut _ _; repeat (first | (with_reducible assumption) | exact Fut.refl _ | exact Fut.fut _ _ _ | refine Fut.drew ?_ | refine Fut.alloc ?_ _ | refine Fut.trans ?_ (Fut.fut _ _ _) | refine Fut.trans ?_ (by assumption)))).mono ?_; rintro e w1 ⟨rfl, hb1⟩; have hf1 : Fut _ w1 := hb1; refine hK _ _ (.inr hf1) ?_; clear hK K hb1))
                  (refine wpF_h rfl rfl (fun K hK => ?_); go_simp; refine hK _ _ ?_; clear hK K)
                  refine wpF_nil ?_
                  by_cases hzz : zz = 0
                  · subst hzz
                    have HA := Lib.hid (show cmpL (EEs es) (k.map toDT) (l.map toDT) = cmpL (EEs es) ((k.map toDT).drop (j + 1)) ((l.map toDT).drop (j + 1)) from by rw [hall.out, HAT.out]; simp)
                    go_wp2_with fail
                    exact ⟨⟨j + 1, by omega, by go_num, HA, HFR.out.trans (by show Fut _ _; repeat (first | (with_reducible assumption) | exact Fut.refl _ | exact Fut.fut _ _ _ | refine Fut.drew ?_ | refine Fut.alloc ?_ _ | refine Fut.trans ?_ (Fut.fut _ _ _) | refine Fut.trans ?_ (by assumption)))⟩, by simp [intOf]; omega⟩
                  · have HA := Lib.hid (show res = zz from by rw [HC2.out, hall.out, HAT.out]; simp [hzz])
                    obtain ⟨x1, x2, x3⟩ := cmpF_no hzz
                    clear hzz
                    go_wp2_with fail
                    go_ret
                    exact ⟨by rw [HA.out]; rfl, HF.out.trans (HFR.out.trans (by show Fut _ _; repeat (first | (with_reducible assumption) | exact Fut.refl _ | exact Fut.fut _ _ _ | refine Fut.drew ?_ | refine Fut.alloc ?_ _ | refine Fut.trans ?_ (Fut.fut _ _ _) | refine Fut.trans ?_ (by assumption))))⟩
                · have HA := Lib.hid (show res = 0 from by
                    rw [HC2.out, hall.out, List.drop_of_length_le (by rw [List.length_map, HM.out]; omega), List.drop_of_length_le (by rw [List.length_map, HP.out]; omega), cmpL])
                  clear hF
                  go_wp2_with fail
                  go_ret
                  exact ⟨by rw [HA.out]; rfl, HF.out.trans HFR.out⟩
            · rcases Int.lt_or_gt_of_ne hef with hlt | hlt
              · have HA := Lib.hid (show res = -1 from by rw [HCD.out]; simp [cmpI, hlt])
                have hlt1 : (e < f) = True := eq_true hlt
                clear hef hlt
                go_wp2_with fail
                go_ret
                exact ⟨by rw [HA.out]; rfl, HF.out.trans HF5.out⟩
              · have HA := Lib.hid (show res = 1 from by rw [HCD.out]; simp [cmpI, hlt, show ¬ e < f by omega])
                have hlt1 : (e < f) = False := eq_false (by omega)
                have hlt2 : (f < e) = True := eq_true hlt
                clear hef hlt
                go_wp2_with fail
                go_ret
                exact ⟨by rw [HA.out]; rfl, HF.out.trans HF5.out⟩
    clear hcont
    have q0 := cell_fut Q0.out
    have q1 := cell_fut Q1.out
    have q2 := cell_fut Q2.out
    have q3 := cell_fut Q3.out
    have q4 := cell_fut Q4.out
    have q5 := cell_fut Q5.out
    refine wp_region_M o_emendateref30_Compare_1 (by kernel_rfl) (by kernel_rfl) (by intro c a d v w h; cases d <;> exact h) ?_; unfold o_emendateref30_Compare_1
    iterate 4 (refine wpF_h rfl rfl (fun K hK => ?_); go_simp; refine hK _ _ ?_; clear hK K)
    clear q0 q1 q2 q3 q4 q5
    have FW := Lib.hid (show Fut wb wb.drew from (Fut.refl wb).drew)
    generalize wb.drew = wc at FW ⊢
    show wpG Fut _ _ _ _ _ _ _
    refine wpG_many (List.forall_mem_cons.2 ⟨⟨_, _, rfl, if_pos rfl, fun K hK => ?_⟩, List.forall_mem_cons.2 ⟨⟨_, _, rfl, (if_neg (by decide)).trans (if_pos rfl), fun K hK => ?_⟩, List.forall_mem_cons.2 ⟨⟨_, _, rfl, (if_neg (by decide)).trans ((if_neg (by decide)).trans (if_pos rfl)), fun K hK => ?_⟩, fun _ h9 => absurd h9 (by simp)⟩⟩⟩)
    · go_simp
      go_at_call 15
      refine (HVA1'.out _ (HF.out.trans FW.out)).mono ?_
      rintro r1 w1q ⟨rfl, hb⟩
      have f1 : Fut wc w1q := hb
      refine hK _ _ (.inr f1) ?_
      have F1 := Lib.hid (FW.out.trans f1)
      clear hb f1 hK K
      show wpG Fut _ _ _ _ _ _ _
      refine wpG_many (List.forall_mem_cons.2 ⟨⟨_, _, rfl, if_pos rfl, fun K hK => ?_⟩, List.forall_mem_cons.2 ⟨⟨_, _, rfl, (if_neg (by decide)).trans (if_pos rfl), fun K hK => ?_⟩, List.forall_mem_cons.2 ⟨⟨_, _, rfl, (if_neg (by decide)).trans ((if_neg (by decide)).trans (if_pos rfl)), fun K hK => ?_⟩, fun _ h9 => absurd h9 (by simp)⟩⟩⟩)
      · go_simp
        go_at_call 15
        refine (HVA2'.out _ (HF.out.trans F1.out)).mono ?_
        rintro r1 w2q ⟨rfl, hb⟩
        have f1 : Fut w1q w2q := hb
        refine hK _ _ (.inr f1) ?_
        have F2 := Lib.hid (F1.out.trans f1)
        clear hb f1 hK K
        refine wpF_two rfl rfl (fun K hK => ?_) (fun K hK => ?_)
        · go_simp
          refine hK _ _ (.inr ((Fut.refl _).alloc _)) ?_
          clear hK K
          obtain ⟨w3q, hwq⟩ : ∃ q, q = w2q.alloc (.cells #[.int .i64 0, .int .i64 0] 34) := ⟨_, rfl⟩
          obtain ⟨xb, hvb⟩ : ∃ q, q = w2q.heap.size := ⟨_, rfl⟩
          rw [← hwq, ← hvb]
          have Lx := Lib.hid (show wb.heap.size ≤ xb from by rw [hvb]; exact F2.out.size)
          have F3 := Lib.hid (show Fut wb w3q from by rw [hwq]; exact F2.out.alloc _)
          have Bx3 := Lib.hid (show Blk w3q xb 34 #[.int .i64 0, .int .i64 0] from by rw [hwq, hvb]; exact Blk.new _ _ _)
          clear hwq hvb
          refine wpF_o rfl rfl (fun K hK => ?_)
          go_simp
          refine hK _ _ (.inr ((Fut.refl _).alloc _)) ?_
          clear hK K
          obtain ⟨w4q, hwq⟩ : ∃ q, q = w3q.alloc (.cells #[.int .i64 0, .int .i64 0] 34) := ⟨_, rfl⟩
          obtain ⟨yb, hvb⟩ : ∃ q, q = w3q.heap.size := ⟨_, rfl⟩
          rw [← hwq, ← hvb]
          have Ly := Lib.hid (show wb.heap.size ≤ yb from by rw [hvb]; exact F3.out.size)
          have F4 := Lib.hid (show Fut wb w4q from by rw [hwq]; exact F3.out.alloc _)
          have By4 := Lib.hid (show Blk w4q yb 34 #[.int .i64 0, .int .i64 0] from by rw [hwq, hvb]; exact Blk.new _ _ _)
          have NE := Lib.hid (show xb < yb from by rw [hvb]; exact Bx3.out.lt)
          have Bx4 := Lib.hid (show Blk w4q xb 34 #[.int .i64 0, .int .i64 0] from by rw [hwq]; exact Bx3.out.alloc _)
          clear hwq hvb
          have x2 := Bx4.out.cell (i := 0) rfl
          have x3 := Bx4.out.cell (i := 1) rfl
          have x0 := Bx4.out.fz 0
          have x1 := Bx4.out.fz 1
          refine wpF_ol rfl (by kernel_rfl) rfl (fun K hK => ?_)
          go_simp
          refine hK _ _ ?_
          clear hK K x0 x1 x2 x3
          have lx := Lx.out
          have ly := Ly.out
          have ne : xb ≠ yb := by have := NE.out; omega
          have bx : Blk ((w4q.setCell ⟨xb, 0, none⟩ (.int .i64 v1c)).setCell ⟨xb, 1, none⟩ (.int .i64 v1s)) xb 34 #[.int .i64 v1c, .int .i64 v1s] := (Bx4.out.set 0 (.int .i64 v1c)).set 1 (.int .i64 v1s)
          have bY : Blk ((w4q.setCell ⟨xb, 0, none⟩ (.int .i64 v1c)).setCell ⟨xb, 1, none⟩ (.int .i64 v1s)) yb 34 #[.int .i64 0, .int .i64 0] := (By4.out.setOther (a := ⟨xb, 0, none⟩) ne.symm _).setOther (a := ⟨xb, 1, none⟩) ne.symm _
          have fs : Fut wb ((w4q.setCell ⟨xb, 0, none⟩ (.int .i64 v1c)).setCell ⟨xb, 1, none⟩ (.int .i64 v1s)) := (F4.out.setCell (p := ⟨xb, 0, none⟩) lx _).setCell (p := ⟨xb, 1, none⟩) lx _
          generalize ((w4q.setCell ⟨xb, 0, none⟩ (.int .i64 v1c)).setCell ⟨xb, 1, none⟩ (.int .i64 v1s)) = ws at bx bY fs ⊢
          have x2 := bY.cell (i := 0) rfl
          have x3 := bY.cell (i := 1) rfl
          have x0 := bY.fz 0
          have x1 := bY.fz 1
          refine wpF_ol rfl (by kernel_rfl) rfl (fun K hK => ?_)
          go_simp
          refine hK _ _ ?_
          clear hK K x0 x1 x2 x3
          refine wpF_nil ?_
          exact cont xb yb _ (Lib.hid ⟨((fs.setCell (p := ⟨yb, 0, none⟩) ly _).setCell (p := ⟨yb, 1, none⟩) ly _), (bx.setOther (a := ⟨yb, 0, none⟩) ne _).setOther (a := ⟨yb, 1, none⟩) ne _, (bY.set 0 (.int .i64 v2c)).set 1 (.int .i64 v2s)⟩)
        · go_simp
          refine hK _ _ (.inr ((Fut.refl _).alloc _)) ?_
          clear hK K
          obtain ⟨w3q, hwq⟩ : ∃ q, q = w2q.alloc (.cells #[.int .i64 0, .int .i64 0] 34) := ⟨_, rfl⟩
          obtain ⟨yb, hvb⟩ : ∃ q, q = w2q.heap.size := ⟨_, rfl⟩
          rw [← hwq, ← hvb]
          have Ly := Lib.hid (show wb.heap.size ≤ yb from by rw [hvb]; exact F2.out.size)
          have F3 := Lib.hid (show Fut wb w3q from by rw [hwq]; exact F2.out.alloc _)
          have By3 := Lib.hid (show Blk w3q yb 34 #[.int .i64 0, .int .i64 0] from by rw [hwq, hvb]; exact Blk.new _ _ _)
          clear hwq hvb
          refine wpF_o rfl rfl (fun K hK => ?_)
          go_simp
          refine hK _ _ (.inr ((Fut.refl _).alloc _)) ?_
          clear hK K
          obtain ⟨w4q, hwq⟩ : ∃ q, q = w3q.alloc (.cells #[.int .i64 0, .int .i64 0] 34) := ⟨_, rfl⟩
          obtain ⟨xb, hvb⟩ : ∃ q, q = w3q.heap.size := ⟨_, rfl⟩
          rw [← hwq, ← hvb]
          have Lx := Lib.hid (show wb.heap.size ≤ xb from by rw [hvb]; exact F3.out.size)
          have F4 := Lib.hid (show Fut wb w4q from by rw [hwq]; exact F3.out.alloc _)
          have Bx4 := Lib.hid (show Blk w4q xb 34 #[.int .i64 0, .int .i64 0] from by rw [hwq, hvb]; exact Blk.new _ _ _)
          have NE := Lib.hid (show yb < xb from by rw [hvb]; exact By3.out.lt)
          have By4 := Lib.hid (show Blk w4q yb 34 #[.int .i64 0, .int .i64 0] from by rw [hwq]; exact By3.out.alloc _)
          clear hwq hvb
          have x2 := Bx4.out.cell (i := 0) rfl
          have x3 := Bx4.out.cell (i := 1) rfl
          have x0 := Bx4.out.fz 0
          have x1 := Bx4.out.fz 1
          refine wpF_ol rfl (by kernel_rfl) rfl (fun K hK => ?_)
          go_simp
          refine hK _ _ ?_
          clear hK K x0 x1 x2 x3
          have lx := Lx.out
          have ly := Ly.out
          have ne : xb ≠ yb := by have := NE.out; omega
          have bx : Blk ((w4q.setCell ⟨xb, 0, none⟩ (.int .i64 v1c)).setCell ⟨xb, 1, none⟩ (.int .i64 v1s)) xb 34 #[.int .i64 v1c, .int .i64 v1s] := (Bx4.out.set 0 (.int .i64 v1c)).set 1 (.int .i64 v1s)
          have bY : Blk ((w4q.setCell ⟨xb, 0, none⟩ (.int .i64 v1c)).setCell ⟨xb, 1, none⟩ (.int .i64 v1s)) yb 34 #[.int .i64 0, .int .i64 0] := (By4.out.setOther (a := ⟨xb, 0, none⟩) ne.symm _).setOther (a := ⟨xb, 1, none⟩) ne.symm _
          have fs : Fut wb ((w4q.setCell ⟨xb, 0, none⟩ (.int .i64 v1c)).setCell ⟨xb, 1, none⟩ (.int .i64 v1s)) := (F4.out.setCell (p := ⟨xb, 0, none⟩) lx _).setCell (p := ⟨xb, 1, none⟩) lx _
          generalize ((w4q.setCell ⟨xb, 0, none⟩ (.int .i64 v1c)).setCell ⟨xb, 1, none⟩ (.int .i64 v1s)) = ws at bx bY fs ⊢
          have x2 := bY.cell (i := 0) rfl
          have x3 := bY.cell (i := 1) rfl
          have x0 := bY.fz 0
          have x1 := bY.fz 1
          refine wpF_ol rfl (by kernel_rfl) rfl (fun K hK => ?_)
          go_simp
          refine hK _ _ ?_
          clear hK K x0 x1 x2 x3
          refine wpF_nil ?_
          exact cont xb yb _ (Lib.hid ⟨((fs.setCell (p := ⟨yb, 0, none⟩) ly _).setCell (p := ⟨yb, 1, none⟩) ly _), (bx.setOther (a := ⟨yb, 0, none⟩) ne _).setOther (a := ⟨yb, 1, none⟩) ne _, (bY.set 0 (.int .i64 v2c)).set 1 (.int .i64 v2s)⟩)
      · go_simp
        refine hK _ _ (.inr ((Fut.refl _).alloc _)) ?_
        clear hK K
        obtain ⟨w2q, hwq⟩ : ∃ q, q = w1q.alloc (.cells #[.int .i64 0, .int .i64 0] 34) := ⟨_, rfl⟩
        obtain ⟨xb, hvb⟩ : ∃ q, q = w1q.heap.size := ⟨_, rfl⟩
        rw [← hwq, ← hvb]
        have Lx := Lib.hid (show wb.heap.size ≤ xb from by rw [hvb]; exact F1.out.size)
        have F2 := Lib.hid (show Fut wb w2q from by rw [hwq]; exact F1.out.alloc _)
        have Bx2 := Lib.hid (show Blk w2q xb 34 #[.int .i64 0, .int .i64 0] from by rw [hwq, hvb]; exact Blk.new _ _ _)
        clear hwq hvb
        refine wpF_two rfl rfl (fun K hK => ?_) (fun K hK => ?_)
        · go_simp
          go_at_call 15
          refine (HVA2'.out _ (HF.out.trans F2.out)).mono ?_
          rintro r1 w3q ⟨rfl, hb⟩
          have f1 : Fut w2q w3q := hb
          refine hK _ _ (.inr f1) ?_
          have F3 := Lib.hid (F2.out.trans f1)
          have Bx3 := Lib.hid (Bx2.out.fut f1)
          clear hb f1 hK K
          refine wpF_o rfl rfl (fun K hK => ?_)
          go_simp
          refine hK _ _ (.inr ((Fut.refl _).alloc _)) ?_
          clear hK K
          obtain ⟨w4q, hwq⟩ : ∃ q, q = w3q.alloc (.cells #[.int .i64 0, .int .i64 0] 34) := ⟨_, rfl⟩
          obtain ⟨yb, hvb⟩ : ∃ q, q = w3q.heap.size := ⟨_, rfl⟩
          rw [← hwq, ← hvb]
          have Ly := Lib.hid (show wb.heap.size ≤ yb from by rw [hvb]; exact F3.out.size)
          have F4 := Lib.hid (show Fut wb w4q from by rw [hwq]; exact F3.out.alloc _)
          have By4 := Lib.hid (show Blk w4q yb 34 #[.int .i64 0, .int .i64 0] from by rw [hwq, hvb]; exact Blk.new _ _ _)
          have NE := Lib.hid (show xb < yb from by rw [hvb]; exact Bx3.out.lt)
          have Bx4 := Lib.hid (show Blk w4q xb 34 #[.int .i64 0, .int .i64 0] from by rw [hwq]; exact Bx3.out.alloc _)
          clear hwq hvb
          have x2 := Bx4.out.cell (i := 0) rfl
          have x3 := Bx4.out.cell (i := 1) rfl
          have x0 := Bx4.out.fz 0
          have x1 := Bx4.out.fz 1
          refine wpF_ol rfl (by kernel_rfl) rfl (fun K hK => ?_)
          go_simp
          refine hK _ _ ?_
          clear hK K x0 x1 x2 x3
          have lx := Lx.out
          have ly := Ly.out
          have ne : xb ≠ yb := by have := NE.out; omega
          have bx : Blk ((w4q.setCell ⟨xb, 0, none⟩ (.int .i64 v1c)).setCell ⟨xb, 1, none⟩ (.int .i64 v1s)) xb 34 #[.int .i64 v1c, .int .i64 v1s] := (Bx4.out.set 0 (.int .i64 v1c)).set 1 (.int .i64 v1s)
          have bY : Blk ((w4q.setCell ⟨xb, 0, none⟩ (.int .i64 v1c)).setCell ⟨xb, 1, none⟩ (.int .i64 v1s)) yb 34 #[.int .i64 0, .int .i64 0] := (By4.out.setOther (a := ⟨xb, 0, none⟩) ne.symm _).setOther (a := ⟨xb, 1, none⟩) ne.symm _
          have fs : Fut wb ((w4q.setCell ⟨xb, 0, none⟩ (.int .i64 v1c)).setCell ⟨xb, 1, none⟩ (.int .i64 v1s)) := (F4.out.setCell (p := ⟨xb, 0, none⟩) lx _).setCell (p := ⟨xb, 1, none⟩) lx _
          generalize ((w4q.setCell ⟨xb, 0, none⟩ (.int .i64 v1c)).setCell ⟨xb, 1, none⟩ (.int .i64 v1s)) = ws at bx bY fs ⊢
          have x2 := bY.cell (i := 0) rfl
          have x3 := bY.cell (i := 1) rfl
          have x0 := bY.fz 0
          have x1 := bY.fz 1
          refine wpF_ol rfl (by kernel_rfl) rfl (fun K hK => ?_)
          go_simp
          refine hK _ _ ?_
          clear hK K x0 x1 x2 x3
          refine wpF_nil ?_
          exact cont xb yb _ (Lib.hid ⟨((fs.setCell (p := ⟨yb, 0, none⟩) ly _).setCell (p := ⟨yb, 1, none⟩) ly _), (bx.setOther (a := ⟨yb, 0, none⟩) ne _).setOther (a := ⟨yb, 1, none⟩) ne _, (bY.set 0 (.int .i64 v2c)).set 1 (.int .i64 v2s)⟩)
        · go_simp
          refine hK _ _ (.inr ((Fut.refl _).alloc _)) ?_
          clear hK K
          obtain ⟨w3q, hwq⟩ : ∃ q, q = w2q.alloc (.cells #[.int .i64 0, .int .i64 0] 34) := ⟨_, rfl⟩
          obtain ⟨yb, hvb⟩ : ∃ q, q = w2q.heap.size := ⟨_, rfl⟩
          rw [← hwq, ← hvb]
          have Ly := Lib.hid (show wb.heap.size ≤ yb from by rw [hvb]; exact F2.out.size)
          have F3 := Lib.hid (show Fut wb w3q from by rw [hwq]; exact F2.out.alloc _)
          have By3 := Lib.hid (show Blk w3q yb 34 #[.int .i64 0, .int .i64 0] from by rw [hwq, hvb]; exact Blk.new _ _ _)
          have NE := Lib.hid (show xb < yb from by rw [hvb]; exact Bx2.out.lt)
          have Bx3 := Lib.hid (show Blk w3q xb 34 #[.int .i64 0, .int .i64 0] from by rw [hwq]; exact Bx2.out.alloc _)
          clear hwq hvb
          refine wpF_o rfl rfl (fun K hK => ?_)
          go_simp
          go_at_call 15
          refine (HVA2'.out _ (HF.out.trans F3.out)).mono ?_
          rintro r1 w4q ⟨rfl, hb⟩
          have f1 : Fut w3q w4q := hb
          refine hK _ _ (.inr f1) ?_
          have F4 := Lib.hid (F3.out.trans f1)
          have By4 := Lib.hid (By3.out.fut f1)
          have Bx4 := Lib.hid (Bx3.out.fut f1)
          clear hb f1 hK K
          have x2 := Bx4.out.cell (i := 0) rfl
          have x3 := Bx4.out.cell (i := 1) rfl
          have x0 := Bx4.out.fz 0
          have x1 := Bx4.out.fz 1
          refine wpF_ol rfl (by kernel_rfl) rfl (fun K hK => ?_)
          go_simp
          refine hK _ _ ?_
          clear hK K x0 x1 x2 x3
          have lx := Lx.out
          have ly := Ly.out
          have ne : xb ≠ yb := by have := NE.out; omega
          have bx : Blk ((w4q.setCell ⟨xb, 0, none⟩ (.int .i64 v1c)).setCell ⟨xb, 1, none⟩ (.int .i64 v1s)) xb 34 #[.int .i64 v1c, .int .i64 v1s] := (Bx4.out.set 0 (.int .i64 v1c)).set 1 (.int .i64 v1s)
          have bY : Blk ((w4q.setCell ⟨xb, 0, none⟩ (.int .i64 v1c)).setCell ⟨xb, 1, none⟩ (.int .i64 v1s)) yb 34 #[.int .i64 0, .int .i64 0] := (By4.out.setOther (a := ⟨xb, 0, none⟩) ne.symm _).setOther (a := ⟨xb, 1, none⟩) ne.symm _
          have fs : Fut wb ((w4q.setCell ⟨xb, 0, none⟩ (.int .i64 v1c)).setCell ⟨xb, 1, none⟩ (.int .i64 v1s)) := (F4.out.setCell (p := ⟨xb, 0, none⟩) lx _).setCell (p := ⟨xb, 1, none⟩) lx _
          generalize ((w4q.setCell ⟨xb, 0, none⟩ (.int .i64 v1c)).setCell ⟨xb, 1, none⟩ (.int .i64 v1s)) = ws at bx bY fs ⊢
          have x2 := bY.cell (i := 0) rfl
          have x3 := bY.cell (i := 1) rfl
          have x0 := bY.fz 0
          have x1 := bY.fz 1
          refine wpF_ol rfl (by kernel_rfl) rfl (fun K hK => ?_)
          go_simp
          refine hK _ _ ?_
          clear hK K x0 x1 x2 x3
          refine wpF_nil ?_
          exact cont xb yb _ (Lib.hid ⟨((fs.setCell (p := ⟨yb, 0, none⟩) ly _).setCell (p := ⟨yb, 1, none⟩) ly _), (bx.setOther (a := ⟨yb, 0, none⟩) ne _).setOther (a := ⟨yb, 1, none⟩) ne _, (bY.set 0 (.int .i64 v2c)).set 1 (.int .i64 v2s)⟩)
      · go_simp
        refine hK _ _ (.inr ((Fut.refl _).alloc _)) ?_
        clear hK K
        obtain ⟨w2q, hwq⟩ : ∃ q, q = w1q.alloc (.cells #[.int .i64 0, .int .i64 0] 34) := ⟨_, rfl⟩
        obtain ⟨yb, hvb⟩ : ∃ q, q = w1q.heap.size := ⟨_, rfl⟩
        rw [← hwq, ← hvb]
        have Ly := Lib.hid (show wb.heap.size ≤ yb from by rw [hvb]; exact F1.out.size)
        have F2 := Lib.hid (show Fut wb w2q from by rw [hwq]; exact F1.out.alloc _)
        have By2 := Lib.hid (show Blk w2q yb 34 #[.int .i64 0, .int .i64 0] from by rw [hwq, hvb]; exact Blk.new _ _ _)
        clear hwq hvb
        refine wpF_two rfl rfl (fun K hK => ?_) (fun K hK => ?_)
        · go_simp
          go_at_call 15
          refine (HVA2'.out _ (HF.out.trans F2.out)).mono ?_
          rintro r1 w3q ⟨rfl, hb⟩
          have f1 : Fut w2q w3q := hb
          refine hK _ _ (.inr f1) ?_
          have F3 := Lib.hid (F2.out.trans f1)
          have By3 := Lib.hid (By2.out.fut f1)
          clear hb f1 hK K
          refine wpF_o rfl rfl (fun K hK => ?_)
          go_simp
          refine hK _ _ (.inr ((Fut.refl _).alloc _)) ?_
          clear hK K
          obtain ⟨w4q, hwq⟩ : ∃ q, q = w3q.alloc (.cells #[.int .i64 0, .int .i64 0] 34) := ⟨_, rfl⟩
          obtain ⟨xb, hvb⟩ : ∃ q, q = w3q.heap.size := ⟨_, rfl⟩
          rw [← hwq, ← hvb]
          have Lx := Lib.hid (show wb.heap.size ≤ xb from by rw [hvb]; exact F3.out.size)
          have F4 := Lib.hid (show Fut wb w4q from by rw [hwq]; exact F3.out.alloc _)
          have Bx4 := Lib.hid (show Blk w4q xb 34 #[.int .i64 0, .int .i64 0] from by rw [hwq, hvb]; exact Blk.new _ _ _)
          have NE := Lib.hid (show yb < xb from by rw [hvb]; exact By3.out.lt)
          have By4 := Lib.hid (show Blk w4q yb 34 #[.int .i64 0, .int .i64 0] from by rw [hwq]; exact By3.out.alloc _)
          clear hwq hvb
          have x2 := Bx4.out.cell (i := 0) rfl
          have x3 := Bx4.out.cell (i := 1) rfl
          have x0 := Bx4.out.fz 0
          have x1 := Bx4.out.fz 1
          refine wpF_ol rfl (by kernel_rfl) rfl (fun K hK => ?_)
          go_simp
          refine hK _ _ ?_
          clear hK K x0 x1 x2 x3
          have lx := Lx.out
          have ly := Ly.out
          have ne : xb ≠ yb := by have := NE.out; omega
          have bx : Blk ((w4q.setCell ⟨xb, 0, none⟩ (.int .i64 v1c)).setCell ⟨xb, 1, none⟩ (.int .i64 v1s)) xb 34 #[.int .i64 v1c, .int .i64 v1s] := (Bx4.out.set 0 (.int .i64 v1c)).set 1 (.int .i64 v1s)
          have bY : Blk ((w4q.setCell ⟨xb, 0, none⟩ (.int .i64 v1c)).setCell ⟨xb, 1, none⟩ (.int .i64 v1s)) yb 34 #[.int .i64 0, .int .i64 0] := (By4.out.setOther (a := ⟨xb, 0, none⟩) ne.symm _).setOther (a := ⟨xb, 1, none⟩) ne.symm _
          have fs : Fut wb ((w4q.setCell ⟨xb, 0, none⟩ (.int .i64 v1c)).setCell ⟨xb, 1, none⟩ (.int .i64 v1s)) := (F4.out.setCell (p := ⟨xb, 0, none⟩) lx _).setCell (p := ⟨xb, 1, none⟩) lx _
          generalize ((w4q.setCell ⟨xb, 0, none⟩ (.int .i64 v1c)).setCell ⟨xb, 1, none⟩ (.int .i64 v1s)) = ws at bx bY fs ⊢
          have x2 := bY.cell (i := 0) rfl
          have x3 := bY.cell (i := 1) rfl
          have x0 := bY.fz 0
          have x1 := bY.fz 1
          refine wpF_ol rfl (by kernel_rfl) rfl (fun K hK => ?_)
          go_simp
          refine hK _ _ ?_
          clear hK K x0 x1 x2 x3
          refine wpF_nil ?_
          exact cont xb yb _ (Lib.hid ⟨((fs.setCell (p := ⟨yb, 0, none⟩) ly _).setCell (p := ⟨yb, 1, none⟩) ly _), (bx.setOther (a := ⟨yb, 0, none⟩) ne _).setOther (a := ⟨yb, 1, none⟩) ne _, (bY.set 0 (.int .i64 v2c)).set 1 (.int .i64 v2s)⟩)
        · go_simp
          refine hK _ _ (.inr ((Fut.refl _).alloc _)) ?_
          clear hK K
          obtain ⟨w3q, hwq⟩ : ∃ q, q = w2q.alloc (.cells #[.int .i64 0, .int .i64 0] 34) := ⟨_, rfl⟩
          obtain ⟨xb, hvb⟩ : ∃ q, q = w2q.heap.size := ⟨_, rfl⟩
          rw [← hwq, ← hvb]
          have Lx := Lib.hid (show wb.heap.size ≤ xb from by rw [hvb]; exact F2.out.size)
          have F3 := Lib.hid (show Fut wb w3q from by rw [hwq]; exact F2.out.alloc _)
          have Bx3 := Lib.hid (show Blk w3q xb 34 #[.int .i64 0, .int .i64 0] from by rw [hwq, hvb]; exact Blk.new _ _ _)
          have NE := Lib.hid (show yb < xb from by rw [hvb]; exact By2.out.lt)
          have By3 := Lib.hid (show Blk w3q yb 34 #[.int .i64 0, .int .i64 0] from by rw [hwq]; exact By2.out.alloc _)
          clear hwq hvb
          refine wpF_o rfl rfl (fun K hK => ?_)
          go_simp
          go_at_call 15
          refine (HVA2'.out _ (HF.out.trans F3.out)).mono ?_
          rintro r1 w4q ⟨rfl, hb⟩
          have f1 : Fut w3q w4q := hb
          refine hK _ _ (.inr f1) ?_
          have F4 := Lib.hid (F3.out.trans f1)
          have Bx4 := Lib.hid (Bx3.out.fut f1)
          have By4 := Lib.hid (By3.out.fut f1)
          clear hb f1 hK K
          have x2 := Bx4.out.cell (i := 0) rfl
          have x3 := Bx4.out.cell (i := 1) rfl
          have x0 := Bx4.out.fz 0
          have x1 := Bx4.out.fz 1
          refine wpF_ol rfl (by kernel_rfl) rfl (fun K hK => ?_)
          go_simp
          refine hK _ _ ?_
          clear hK K x0 x1 x2 x3
          have lx := Lx.out
          have ly := Ly.out
          have ne : xb ≠ yb := by have := NE.out; omega
          have bx : Blk ((w4q.setCell ⟨xb, 0, none⟩ (.int .i64 v1c)).setCell ⟨xb, 1, none⟩ (.int .i64 v1s)) xb 34 #[.int .i64 v1c, .int .i64 v1s] := (Bx4.out.set 0 (.int .i64 v1c)).set 1 (.int .i64 v1s)
          have bY : Blk ((w4q.setCell ⟨xb, 0, none⟩ (.int .i64 v1c)).setCell ⟨xb, 1, none⟩ (.int .i64 v1s)) yb 34 #[.int .i64 0, .int .i64 0] := (By4.out.setOther (a := ⟨xb, 0, none⟩) ne.symm _).setOther (a := ⟨xb, 1, none⟩) ne.symm _
          have fs : Fut wb ((w4q.setCell ⟨xb, 0, none⟩ (.int .i64 v1c)).setCell ⟨xb, 1, none⟩ (.int .i64 v1s)) := (F4.out.setCell (p := ⟨xb, 0, none⟩) lx _).setCell (p := ⟨xb, 1, none⟩) lx _
          generalize ((w4q.setCell ⟨xb, 0, none⟩ (.int .i64 v1c)).setCell ⟨xb, 1, none⟩ (.int .i64 v1s)) = ws at bx bY fs ⊢
          have x2 := bY.cell (i := 0) rfl
          have x3 := bY.cell (i := 1) rfl
          have x0 := bY.fz 0
          have x1 := bY.fz 1
          refine wpF_ol rfl (by kernel_rfl) rfl (fun K hK => ?_)
          go_simp
          refine hK _ _ ?_
          clear hK K x0 x1 x2 x3
          refine wpF_nil ?_
          exact cont xb yb _ (Lib.hid ⟨((fs.setCell (p := ⟨yb, 0, none⟩) ly _).setCell (p := ⟨yb, 1, none⟩) ly _), (bx.setOther (a := ⟨yb, 0, none⟩) ne _).setOther (a := ⟨yb, 1, none⟩) ne _, (bY.set 0 (.int .i64 v2c)).set 1 (.int .i64 v2s)⟩)
    · go_simp
      refine hK _ _ (.inr ((Fut.refl _).alloc _)) ?_
      clear hK K
      obtain ⟨w1q, hwq⟩ : ∃ q, q = wc.alloc (.cells #[.int .i64 0, .int .i64 0] 34) := ⟨_, rfl⟩
      obtain ⟨xb, hvb⟩ : ∃ q, q = wc.heap.size := ⟨_, rfl⟩
      rw [← hwq, ← hvb]
      have Lx := Lib.hid (show wb.heap.size ≤ xb from by rw [hvb]; exact FW.out.size)
      have F1 := Lib.hid (show Fut wb w1q from by rw [hwq]; exact FW.out.alloc _)
      have Bx1 := Lib.hid (show Blk w1q xb 34 #[.int .i64 0, .int .i64 0] from by rw [hwq, hvb]; exact Blk.new _ _ _)
      clear hwq hvb
      refine wpF_two rfl rfl (fun K hK => ?_) (fun K hK => ?_)
      · go_simp
        go_at_call 15
        refine (HVA1'.out _ (HF.out.trans F1.out)).mono ?_
        rintro r1 w2q ⟨rfl, hb⟩
        have f1 : Fut w1q w2q := hb
        refine hK _ _ (.inr f1) ?_
        have F2 := Lib.hid (F1.out.trans f1)
        have Bx2 := Lib.hid (Bx1.out.fut f1)
        clear hb f1 hK K
        refine wpF_two rfl rfl (fun K hK => ?_) (fun K hK => ?_)
        · go_simp
          go_at_call 15
          refine (HVA2'.out _ (HF.out.trans F2.out)).mono ?_
          rintro r1 w3q ⟨rfl, hb⟩
          have f1 : Fut w2q w3q := hb
          refine hK _ _ (.inr f1) ?_
          have F3 := Lib.hid (F2.out.trans f1)
          have Bx3 := Lib.hid (Bx2.out.fut f1)
          clear hb f1 hK K
          refine wpF_o rfl rfl (fun K hK => ?_)
          go_simp
          refine hK _ _ (.inr ((Fut.refl _).alloc _)) ?_
          clear hK K
          obtain ⟨w4q, hwq⟩ : ∃ q, q = w3q.alloc (.cells #[.int .i64 0, .int .i64 0] 34) := ⟨_, rfl⟩
          obtain ⟨yb, hvb⟩ : ∃ q, q = w3q.heap.size := ⟨_, rfl⟩
          rw [← hwq, ← hvb]
          have Ly := Lib.hid (show wb.heap.size ≤ yb from by rw [hvb]; exact F3.out.size)
          have F4 := Lib.hid (show Fut wb w4q from by rw [hwq]; exact F3.out.alloc _)
          have By4 := Lib.hid (show Blk w4q yb 34 #[.int .i64 0, .int .i64 0] from by rw [hwq, hvb]; exact Blk.new _ _ _)
          have NE := Lib.hid (show xb < yb from by rw [hvb]; exact Bx3.out.lt)
          have Bx4 := Lib.hid (show Blk w4q xb 34 #[.int .i64 0, .int .i64 0] from by rw [hwq]; exact Bx3.out.alloc _)
          clear hwq hvb
          have x2 := Bx4.out.cell (i := 0) rfl
          have x3 := Bx4.out.cell (i := 1) rfl
          have x0 := Bx4.out.fz 0
          have x1 := Bx4.out.fz 1
          refine wpF_ol rfl (by kernel_rfl) rfl (fun K hK => ?_)
          go_simp
          refine hK _ _ ?_
          clear hK K x0 x1 x2 x3
          have lx := Lx.out
          have ly := Ly.out
          have ne : xb ≠ yb := by have := NE.out; omega
          have bx : Blk ((w4q.setCell ⟨xb, 0, none⟩ (.int .i64 v1c)).setCell ⟨xb, 1, none⟩ (.int .i64 v1s)) xb 34 #[.int .i64 v1c, .int .i64 v1s] := (Bx4.out.set 0 (.int .i64 v1c)).set 1 (.int .i64 v1s)
          have bY : Blk ((w4q.setCell ⟨xb, 0, none⟩ (.int .i64 v1c)).setCell ⟨xb, 1, none⟩ (.int .i64 v1s)) yb 34 #[.int .i64 0, .int .i64 0] := (By4.out.setOther (a := ⟨xb, 0, none⟩) ne.symm _).setOther (a := ⟨xb, 1, none⟩) ne.symm _
          have fs : Fut wb ((w4q.setCell ⟨xb, 0, none⟩ (.int .i64 v1c)).setCell ⟨xb, 1, none⟩ (.int .i64 v1s)) := (F4.out.setCell (p := ⟨xb, 0, none⟩) lx _).setCell (p := ⟨xb, 1, none⟩) lx _
          generalize ((w4q.setCell ⟨xb, 0, none⟩ (.int .i64 v1c)).setCell ⟨xb, 1, none⟩ (.int .i64 v1s)) = ws at bx bY fs ⊢
          have x2 := bY.cell (i := 0) rfl
          have x3 := bY.cell (i := 1) rfl
          have x0 := bY.fz 0
          have x1 := bY.fz 1
          refine wpF_ol rfl (by kernel_rfl) rfl (fun K hK => ?_)
          go_simp
          refine hK _ _ ?_
          clear hK K x0 x1 x2 x3
          refine wpF_nil ?_
          exact cont xb yb _ (Lib.hid ⟨((fs.setCell (p := ⟨yb, 0, none⟩) ly _).setCell (p := ⟨yb, 1, none⟩) ly _), (bx.setOther (a := ⟨yb, 0, none⟩) ne _).setOther (a := ⟨yb, 1, none⟩) ne _, (bY.set 0 (.int .i64 v2c)).set 1 (.int .i64 v2s)⟩)
        · go_simp
          refine hK _ _ (.inr ((Fut.refl _).alloc _)) ?_
          clear hK K
          obtain ⟨w3q, hwq⟩ : ∃ q, q = w2q.alloc (.cells #[.int .i64 0, .int .i64 0] 34) := ⟨_, rfl⟩
          obtain ⟨yb, hvb⟩ : ∃ q, q = w2q.heap.size := ⟨_, rfl⟩
          rw [← hwq, ← hvb]
          have Ly := Lib.hid (show wb.heap.size ≤ yb from by rw [hvb]; exact F2.out.size)
          have F3 := Lib.hid (show Fut wb w3q from by rw [hwq]; exact F2.out.alloc _)
          have By3 := Lib.hid (show Blk w3q yb 34 #[.int .i64 0, .int .i64 0] from by rw [hwq, hvb]; exact Blk.new _ _ _)
          have NE := Lib.hid (show xb < yb from by rw [hvb]; exact Bx2.out.lt)
          have Bx3 := Lib.hid (show Blk w3q xb 34 #[.int .i64 0, .int .i64 0] from by rw [hwq]; exact Bx2.out.alloc _)
          clear hwq hvb
          refine wpF_o rfl rfl (fun K hK => ?_)
          go_simp
          go_at_call 15
          refine (HVA2'.out _ (HF.out.trans F3.out)).mono ?_
          rintro r1 w4q ⟨rfl, hb⟩
          have f1 : Fut w3q w4q := hb
          refine hK _ _ (.inr f1) ?_
          have F4 := Lib.hid (F3.out.trans f1)
          have By4 := Lib.hid (By3.out.fut f1)
          have Bx4 := Lib.hid (Bx3.out.fut f1)
          clear hb f1 hK K
          have x2 := Bx4.out.cell (i := 0) rfl
          have x3 := Bx4.out.cell (i := 1) rfl
          have x0 := Bx4.out.fz 0
          have x1 := Bx4.out.fz 1
          refine wpF_ol rfl (by kernel_rfl) rfl (fun K hK => ?_)
          go_simp
          refine hK _ _ ?_
          clear hK K x0 x1 x2 x3
          have lx := Lx.out
          have ly := Ly.out
          have ne : xb ≠ yb := by have := NE.out; omega
          have bx : Blk ((w4q.setCell ⟨xb, 0, none⟩ (.int .i64 v1c)).setCell ⟨xb, 1, none⟩ (.int .i64 v1s)) xb 34 #[.int .i64 v1c, .int .i64 v1s] := (Bx4.out.set 0 (.int .i64 v1c)).set 1 (.int .i64 v1s)
          have bY : Blk ((w4q.setCell ⟨xb, 0, none⟩ (.int .i64 v1c)).setCell ⟨xb, 1, none⟩ (.int .i64 v1s)) yb 34 #[.int .i64 0, .int .i64 0] := (By4.out.setOther (a := ⟨xb, 0, none⟩) ne.symm _).setOther (a := ⟨xb, 1, none⟩) ne.symm _
          have fs : Fut wb ((w4q.setCell ⟨xb, 0, none⟩ (.int .i64 v1c)).setCell ⟨xb, 1, none⟩ (.int .i64 v1s)) := (F4.out.setCell (p := ⟨xb, 0, none⟩) lx _).setCell (p := ⟨xb, 1, none⟩) lx _
          generalize ((w4q.setCell ⟨xb, 0, none⟩ (.int .i64 v1c)).setCell ⟨xb, 1, none⟩ (.int .i64 v1s)) = ws at bx bY fs ⊢
          have x2 := bY.cell (i := 0) rfl
          have x3 := bY.cell (i := 1) rfl
          have x0 := bY.fz 0
          have x1 := bY.fz 1
          refine wpF_ol rfl (by kernel_rfl) rfl (fun K hK => ?_)
          go_simp
          refine hK _ _ ?_
          clear hK K x0 x1 x2 x3
          refine wpF_nil ?_
          exact cont xb yb _ (Lib.hid ⟨((fs.setCell (p := ⟨yb, 0, none⟩) ly _).setCell (p := ⟨yb, 1, none⟩) ly _), (bx.setOther (a := ⟨yb, 0, none⟩) ne _).setOther (a := ⟨yb, 1, none⟩) ne _, (bY.set 0 (.int .i64 v2c)).set 1 (.int .i64 v2s)⟩)
      · go_simp
        refine hK _ _ (.inr ((Fut.refl _).alloc _)) ?_
        clear hK K
        obtain ⟨w2q, hwq⟩ : ∃ q, q = w1q.alloc (.cells #[.int .i64 0, .int .i64 0] 34) := ⟨_, rfl⟩
        obtain ⟨yb, hvb⟩ : ∃ q, q = w1q.heap.size := ⟨_, rfl⟩
        rw [← hwq, ← hvb]
        have Ly := Lib.hid (show wb.heap.size ≤ yb from by rw [hvb]; exact F1.out.size)
        have F2 := Lib.hid (show Fut wb w2q from by rw [hwq]; exact F1.out.alloc _)
        have By2 := Lib.hid (show Blk w2q yb 34 #[.int .i64 0, .int .i64 0] from by rw [hwq, hvb]; exact Blk.new _ _ _)
        have NE := Lib.hid (show xb < yb from by rw [hvb]; exact Bx1.out.lt)
        have Bx2 := Lib.hid (show Blk w2q xb 34 #[.int .i64 0, .int .i64 0] from by rw [hwq]; exact Bx1.out.alloc _)
        clear hwq hvb
        refine wpF_o rfl rfl (fun K hK => ?_)
        go_simp
        go_at_call 15
        refine (HVA1'.out _ (HF.out.trans F2.out)).mono ?_
        rintro r1 w3q ⟨rfl, hb⟩
        have f1 : Fut w2q w3q := hb
        refine hK _ _ (.inr f1) ?_
        have F3 := Lib.hid (F2.out.trans f1)
        have By3 := Lib.hid (By2.out.fut f1)
        have Bx3 := Lib.hid (Bx2.out.fut f1)
        clear hb f1 hK K
        refine wpF_o rfl rfl (fun K hK => ?_)
        go_simp
        go_at_call 15
        refine (HVA2'.out _ (HF.out.trans F3.out)).mono ?_
        rintro r1 w4q ⟨rfl, hb⟩
        have f1 : Fut w3q w4q := hb
        refine hK _ _ (.inr f1) ?_
        have F4 := Lib.hid (F3.out.trans f1)
        have By4 := Lib.hid (By3.out.fut f1)
        have Bx4 := Lib.hid (Bx3.out.fut f1)
        clear hb f1 hK K
        have x2 := Bx4.out.cell (i := 0) rfl
        have x3 := Bx4.out.cell (i := 1) rfl
        have x0 := Bx4.out.fz 0
        have x1 := Bx4.out.fz 1
        refine wpF_ol rfl (by kernel_rfl) rfl (fun K hK => ?_)
        go_simp
        refine hK _ _ ?_
        clear hK K x0 x1 x2 x3
        have lx := Lx.out
        have ly := Ly.out
        have ne : xb ≠ yb := by have := NE.out; omega
        have bx : Blk ((w4q.setCell ⟨xb, 0, none⟩ (.int .i64 v1c)).setCell ⟨xb, 1, none⟩ (.int .i64 v1s)) xb 34 #[.int .i64 v1c, .int .i64 v1s] := (Bx4.out.set 0 (.int .i64 v1c)).set 1 (.int .i64 v1s)
        have bY : Blk ((w4q.setCell ⟨xb, 0, none⟩ (.int .i64 v1c)).setCell ⟨xb, 1, none⟩ (.int .i64 v1s)) yb 34 #[.int .i64 0, .int .i64 0] := (By4.out.setOther (a := ⟨xb, 0, none⟩) ne.symm _).setOther (a := ⟨xb, 1, none⟩) ne.symm _
        have fs : Fut wb ((w4q.setCell ⟨xb, 0, none⟩ (.int .i64 v1c)).setCell ⟨xb, 1, none⟩ (.int .i64 v1s)) := (F4.out.setCell (p := ⟨xb, 0, none⟩) lx _).setCell (p := ⟨xb, 1, none⟩) lx _
        generalize ((w4q.setCell ⟨xb, 0, none⟩ (.int .i64 v1c)).setCell ⟨xb, 1, none⟩ (.int .i64 v1s)) = ws at bx bY fs ⊢
        have x2 := bY.cell (i := 0) rfl
        have x3 := bY.cell (i := 1) rfl
        have x0 := bY.fz 0
        have x1 := bY.fz 1
        refine wpF_ol rfl (by kernel_rfl) rfl (fun K hK => ?_)
        go_simp
        refine hK _ _ ?_
        clear hK K x0 x1 x2 x3
        refine wpF_nil ?_
        exact cont xb yb _ (Lib.hid ⟨((fs.setCell (p := ⟨yb, 0, none⟩) ly _).setCell (p := ⟨yb, 1, none⟩) ly _), (bx.setOther (a := ⟨yb, 0, none⟩) ne _).setOther (a := ⟨yb, 1, none⟩) ne _, (bY.set 0 (.int .i64 v2c)).set 1 (.int .i64 v2s)⟩)
    · go_simp
      refine hK _ _ (.inr ((Fut.refl _).alloc _)) ?_
      clear hK K
      obtain ⟨w1q, hwq⟩ : ∃ q, q = wc.alloc (.cells #[.int .i64 0, .int .i64 0] 34) := ⟨_, rfl⟩
      obtain ⟨yb, hvb⟩ : ∃ q, q = wc.heap.size := ⟨_, rfl⟩
      rw [← hwq, ← hvb]
      have Ly := Lib.hid (show wb.heap.size ≤ yb from by rw [hvb]; exact FW.out.size)
      have F1 := Lib.hid (show Fut wb w1q from by rw [hwq]; exact FW.out.alloc _)
      have By1 := Lib.hid (show Blk w1q yb 34 #[.int .i64 0, .int .i64 0] from by rw [hwq, hvb]; exact Blk.new _ _ _)
      clear hwq hvb
      refine wpF_two rfl rfl (fun K hK => ?_) (fun K hK => ?_)
      · go_simp
        go_at_call 15
        refine (HVA1'.out _ (HF.out.trans F1.out)).mono ?_
        rintro r1 w2q ⟨rfl, hb⟩
        have f1 : Fut w1q w2q := hb
        refine hK _ _ (.inr f1) ?_
        have F2 := Lib.hid (F1.out.trans f1)
        have By2 := Lib.hid (By1.out.fut f1)
        clear hb f1 hK K
        refine wpF_two rfl rfl (fun K hK => ?_) (fun K hK => ?_)
        · go_simp
          go_at_call 15
          refine (HVA2'.out _ (HF.out.trans F2.out)).mono ?_
          rintro r1 w3q ⟨rfl, hb⟩
          have f1 : Fut w2q w3q := hb
          refine hK _ _ (.inr f1) ?_
          have F3 := Lib.hid (F2.out.trans f1)
          have By3 := Lib.hid (By2.out.fut f1)
          clear hb f1 hK K
          refine wpF_o rfl rfl (fun K hK => ?_)
          go_simp
          refine hK _ _ (.inr ((Fut.refl _).alloc _)) ?_
          clear hK K
          obtain ⟨w4q, hwq⟩ : ∃ q, q = w3q.alloc (.cells #[.int .i64 0, .int .i64 0] 34) := ⟨_, rfl⟩
          obtain ⟨xb, hvb⟩ : ∃ q, q = w3q.heap.size := ⟨_, rfl⟩
          rw [← hwq, ← hvb]
          have Lx := Lib.hid (show wb.heap.size ≤ xb from by rw [hvb]; exact F3.out.size)
          have F4 := Lib.hid (show Fut wb w4q from by rw [hwq]; exact F3.out.alloc _)
          have Bx4 := Lib.hid (show Blk w4q xb 34 #[.int .i64 0, .int .i64 0] from by rw [hwq, hvb]; exact Blk.new _ _ _)
          have NE := Lib.hid (show yb < xb from by rw [hvb]; exact By3.out.lt)
          have By4 := Lib.hid (show Blk w4q yb 34 #[.int .i64 0, .int .i64 0] from by rw [hwq]; exact By3.out.alloc _)
          clear hwq hvb
          have x2 := Bx4.out.cell (i := 0) rfl
          have x3 := Bx4.out.cell (i := 1) rfl
          have x0 := Bx4.out.fz 0
          have x1 := Bx4.out.fz 1
          refine wpF_ol rfl (by kernel_rfl) rfl (fun K hK => ?_)
          go_simp
          refine hK _ _ ?_
          clear hK K x0 x1 x2 x3
          have lx := Lx.out
          have ly := Ly.out
          have ne : xb ≠ yb := by have := NE.out; omega
          have bx : Blk ((w4q.setCell ⟨xb, 0, none⟩ (.int .i64 v1c)).setCell ⟨xb, 1, none⟩ (.int .i64 v1s)) xb 34 #[.int .i64 v1c, .int .i64 v1s] := (Bx4.out.set 0 (.int .i64 v1c)).set 1 (.int .i64 v1s)
          have bY : Blk ((w4q.setCell ⟨xb, 0, none⟩ (.int .i64 v1c)).setCell ⟨xb, 1, none⟩ (.int .i64 v1s)) yb 34 #[.int .i64 0, .int .i64 0] := (By4.out.setOther (a := ⟨xb, 0, none⟩) ne.symm _).setOther (a := ⟨xb, 1, none⟩) ne.symm _
          have fs : Fut wb ((w4q.setCell ⟨xb, 0, none⟩ (.int .i64 v1c)).setCell ⟨xb, 1, none⟩ (.int .i64 v1s)) := (F4.out.setCell (p := ⟨xb, 0, none⟩) lx _).setCell (p := ⟨xb, 1, none⟩) lx _
          generalize ((w4q.setCell ⟨xb, 0, none⟩ (.int .i64 v1c)).setCell ⟨xb, 1, none⟩ (.int .i64 v1s)) = ws at bx bY fs ⊢
          have x2 := bY.cell (i := 0) rfl
          have x3 := bY.cell (i := 1) rfl
          have x0 := bY.fz 0
          have x1 := bY.fz 1
          refine wpF_ol rfl (by kernel_rfl) rfl (fun K hK => ?_)
          go_simp
          refine hK _ _ ?_
          clear hK K x0 x1 x2 x3
          refine wpF_nil ?_
          exact cont xb yb _ (Lib.hid ⟨((fs.setCell (p := ⟨yb, 0, none⟩) ly _).setCell (p := ⟨yb, 1, none⟩) ly _), (bx.setOther (a := ⟨yb, 0, none⟩) ne _).setOther (a := ⟨yb, 1, none⟩) ne _, (bY.set 0 (.int .i64 v2c)).set 1 (.int .i64 v2s)⟩)
        · go_simp
          refine hK _ _ (.inr ((Fut.refl _).alloc _)) ?_
          clear hK K
          obtain ⟨w3q, hwq⟩ : ∃ q, q = w2q.alloc (.cells #[.int .i64 0, .int .i64 0] 34) := ⟨_, rfl⟩
          obtain ⟨xb, hvb⟩ : ∃ q, q = w2q.heap.size := ⟨_, rfl⟩
          rw [← hwq, ← hvb]
          have Lx := Lib.hid (show wb.heap.size ≤ xb from by rw [hvb]; exact F2.out.size)
          have F3 := Lib.hid (show Fut wb w3q from by rw [hwq]; exact F2.out.alloc _)
          have Bx3 := Lib.hid (show Blk w3q xb 34 #[.int .i64 0, .int .i64 0] from by rw [hwq, hvb]; exact Blk.new _ _ _)
          have NE := Lib.hid (show yb < xb from by rw [hvb]; exact By2.out.lt)
          have By3 := Lib.hid (show Blk w3q yb 34 #[.int .i64 0, .int .i64 0] from by rw [hwq]; exact By2.out.alloc _)
          clear hwq hvb
          refine wpF_o rfl rfl (fun K hK => ?_)
          go_simp
          go_at_call 15
          refine (HVA2'.out _ (HF.out.trans F3.out)).mono ?_
          rintro r1 w4q ⟨rfl, hb⟩
          have f1 : Fut w3q w4q := hb
          refine hK _ _ (.inr f1) ?_
          have F4 := Lib.hid (F3.out.trans f1)
          have Bx4 := Lib.hid (Bx3.out.fut f1)
          have By4 := Lib.hid (By3.out.fut f1)
          clear hb f1 hK K
          have x2 := Bx4.out.cell (i := 0) rfl
          have x3 := Bx4.out.cell (i := 1) rfl
          have x0 := Bx4.out.fz 0
          have x1 := Bx4.out.fz 1
          refine wpF_ol rfl (by kernel_rfl) rfl (fun K hK => ?_)
          go_simp
          refine hK _ _ ?_
          clear hK K x0 x1 x2 x3
          have lx := Lx.out
          have ly := Ly.out
          have ne : xb ≠ yb := by have := NE.out; omega
          have bx : Blk ((w4q.setCell ⟨xb, 0, none⟩ (.int .i64 v1c)).setCell ⟨xb, 1, none⟩ (.int .i64 v1s)) xb 34 #[.int .i64 v1c, .int .i64 v1s] := (Bx4.out.set 0 (.int .i64 v1c)).set 1 (.int .i64 v1s)
          have bY : Blk ((w4q.setCell ⟨xb, 0, none⟩ (.int .i64 v1c)).setCell ⟨xb, 1, none⟩ (.int .i64 v1s)) yb 34 #[.int .i64 0, .int .i64 0] := (By4.out.setOther (a := ⟨xb, 0, none⟩) ne.symm _).setOther (a := ⟨xb, 1, none⟩) ne.symm _
          have fs : Fut wb ((w4q.setCell ⟨xb, 0, none⟩ (.int .i64 v1c)).setCell ⟨xb, 1, none⟩ (.int .i64 v1s)) := (F4.out.setCell (p := ⟨xb, 0, none⟩) lx _).setCell (p := ⟨xb, 1, none⟩) lx _
          generalize ((w4q.setCell ⟨xb, 0, none⟩ (.int .i64 v1c)).setCell ⟨xb, 1, none⟩ (.int .i64 v1s)) = ws at bx bY fs ⊢
          have x2 := bY.cell (i := 0) rfl
          have x3 := bY.cell (i := 1) rfl
          have x0 := bY.fz 0
          have x1 := bY.fz 1
          refine wpF_ol rfl (by kernel_rfl) rfl (fun K hK => ?_)
          go_simp
          refine hK _ _ ?_
          clear hK K x0 x1 x2 x3
          refine wpF_nil ?_
          exact cont xb yb _ (Lib.hid ⟨((fs.setCell (p := ⟨yb, 0, none⟩) ly _).setCell (p := ⟨yb, 1, none⟩) ly _), (bx.setOther (a := ⟨yb, 0, none⟩) ne _).setOther (a := ⟨yb, 1, none⟩) ne _, (bY.set 0 (.int .i64 v2c)).set 1 (.int .i64 v2s)⟩)
      · go_simp
        refine hK _ _ (.inr ((Fut.refl _).alloc _)) ?_
        clear hK K
        obtain ⟨w2q, hwq⟩ : ∃ q, q = w1q.alloc (.cells #[.int .i64 0, .int .i64 0] 34) := ⟨_, rfl⟩
        obtain ⟨xb, hvb⟩ : ∃ q, q = w1q.heap.size := ⟨_, rfl⟩
        rw [← hwq, ← hvb]
        have Lx := Lib.hid (show wb.heap.size ≤ xb from by rw [hvb]; exact F1.out.size)
        have F2 := Lib.hid (show Fut wb w2q from by rw [hwq]; exact F1.out.alloc _)
        have Bx2 := Lib.hid (show Blk w2q xb 34 #[.int .i64 0, .int .i64 0] from by rw [hwq, hvb]; exact Blk.new _ _ _)
        have NE := Lib.hid (show yb < xb from by rw [hvb]; exact By1.out.lt)
        have By2 := Lib.hid (show Blk w2q yb 34 #[.int .i64 0, .int .i64 0] from by rw [hwq]; exact By1.out.alloc _)
        clear hwq hvb
        refine wpF_o rfl rfl (fun K hK => ?_)
        go_simp
        go_at_call 15
        refine (HVA1'.out _ (HF.out.trans F2.out)).mono ?_
        rintro r1 w3q ⟨rfl, hb⟩
        have f1 : Fut w2q w3q := hb
        refine hK _ _ (.inr f1) ?_
        have F3 := Lib.hid (F2.out.trans f1)
        have Bx3 := Lib.hid (Bx2.out.fut f1)
        have By3 := Lib.hid (By2.out.fut f1)
        clear hb f1 hK K
        refine wpF_o rfl rfl (fun K hK => ?_)
        go_simp
        go_at_call 15
        refine (HVA2'.out _ (HF.out.trans F3.out)).mono ?_
        rintro r1 w4q ⟨rfl, hb⟩
        have f1 : Fut w3q w4q := hb
        refine hK _ _ (.inr f1) ?_
        have F4 := Lib.hid (F3.out.trans f1)
        have Bx4 := Lib.hid (Bx3.out.fut f1)
        have By4 := Lib.hid (By3.out.fut f1)
        clear hb f1 hK K
        have x2 := Bx4.out.cell (i := 0) rfl
        have x3 := Bx4.out.cell (i := 1) rfl
        have x0 := Bx4.out.fz 0
        have x1 := Bx4.out.fz 1
        refine wpF_ol rfl (by kernel_rfl) rfl (fun K hK => ?_)
        go_simp
        refine hK _ _ ?_
        clear hK K x0 x1 x2 x3
        have lx := Lx.out
        have ly := Ly.out
        have ne : xb ≠ yb := by have := NE.out; omega
        have bx : Blk ((w4q.setCell ⟨xb, 0, none⟩ (.int .i64 v1c)).setCell ⟨xb, 1, none⟩ (.int .i64 v1s)) xb 34 #[.int .i64 v1c, .int .i64 v1s] := (Bx4.out.set 0 (.int .i64 v1c)).set 1 (.int .i64 v1s)
        have bY : Blk ((w4q.setCell ⟨xb, 0, none⟩ (.int .i64 v1c)).setCell ⟨xb, 1, none⟩ (.int .i64 v1s)) yb 34 #[.int .i64 0, .int .i64 0] := (By4.out.setOther (a := ⟨xb, 0, none⟩) ne.symm _).setOther (a := ⟨xb, 1, none⟩) ne.symm _
        have fs : Fut wb ((w4q.setCell ⟨xb, 0, none⟩ (.int .i64 v1c)).setCell ⟨xb, 1, none⟩ (.int .i64 v1s)) := (F4.out.setCell (p := ⟨xb, 0, none⟩) lx _).setCell (p := ⟨xb, 1, none⟩) lx _
        generalize ((w4q.setCell ⟨xb, 0, none⟩ (.int .i64 v1c)).setCell ⟨xb, 1, none⟩ (.int .i64 v1s)) = ws at bx bY fs ⊢
        have x2 := bY.cell (i := 0) rfl
        have x3 := bY.cell (i := 1) rfl
        have x0 := bY.fz 0
        have x1 := bY.fz 1
        refine wpF_ol rfl (by kernel_rfl) rfl (fun K hK => ?_)
        go_simp
        refine hK _ _ ?_
        clear hK K x0 x1 x2 x3
        refine wpF_nil ?_
        exact cont xb yb _ (Lib.hid ⟨((fs.setCell (p := ⟨yb, 0, none⟩) ly _).setCell (p := ⟨yb, 1, none⟩) ly _), (bx.setOther (a := ⟨yb, 0, none⟩) ne _).setOther (a := ⟨yb, 1, none⟩) ne _, (bY.set 0 (.int .i64 v2c)).set 1 (.int .i64 v2s)⟩)
end Go.Proofs.Ytfaekfonemobcaa
