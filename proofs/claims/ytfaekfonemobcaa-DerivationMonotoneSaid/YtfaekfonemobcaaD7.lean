/-
  Compare of derivations, as the program has it.
-/
import Derived.Test.YtfaekfonemobcaaD5
import Derived.WalkMore
namespace Go.Proofs.Ytfaekfonemobcaa
open Go.RowKit Go.Deep PK
attribute [local go_sem] Oper.lit Oper.litS fut_fut fut_drew World.cell?_alloc_some
theorem values_any (a b : VV) (w : World) : Calls Try.prog 28 #[vv a, vv b] w fun q w' => q = .returned (.int .i64 (cmpV a b)) ∧ Below w.heap.size w w' := by
  have HV := Lib.hid (show cmpV a b = if ltV a b = true then -1 else if ltV b a = true then 1 else 0 from rfl)
  have HL := Lib.hid (fun w' => less_any a b w')
  have HM := Lib.hid (fun w' => less_any b a w')
  generalize cmpV a b = z at HV ⊢
  generalize ltV a b = x at HV HL
  generalize ltV b a = y at HV HM
  obtain ⟨ac, a2⟩ := a
  obtain ⟨bc, b2⟩ := b
  go_enter Try.func28, Try.ntmps28
  go_wp2_with fail
  have HF := Lib.hid (show Fut w ((w.alloc (.cells #[.int .i64 ac, .int .i64 a2] 34)).alloc (.cells #[.int .i64 bc, .int .i64 b2] 34)) from ((Fut.refl w).alloc _).alloc _)
  have Q0 := Lib.hid (show ((w.alloc (.cells #[.int .i64 ac, .int .i64 a2] 34)).alloc (.cells #[.int .i64 bc, .int .i64 b2] 34)).cell? ⟨w.heap.size, 0, none⟩ = some (.int .i64 ac) from by (repeat (first | exact (cell_al_new _ _ _ _ _ _ (by first | rfl | (simp only [World.size_alloc]))).trans rfl | refine (cell_al_old _ _ _ (by first | omega | (simp only [World.size_alloc]; omega))).trans ?_)))
  have Q1 := Lib.hid (show ((w.alloc (.cells #[.int .i64 ac, .int .i64 a2] 34)).alloc (.cells #[.int .i64 bc, .int .i64 b2] 34)).cell? ⟨w.heap.size, 1, none⟩ = some (.int .i64 a2) from by (repeat (first | exact (cell_al_new _ _ _ _ _ _ (by first | rfl | (simp only [World.size_alloc]))).trans rfl | refine (cell_al_old _ _ _ (by first | omega | (simp only [World.size_alloc]; omega))).trans ?_)))
  have Q2 := Lib.hid (show ((w.alloc (.cells #[.int .i64 ac, .int .i64 a2] 34)).alloc (.cells #[.int .i64 bc, .int .i64 b2] 34)).cell? ⟨w.heap.size + 1, 0, none⟩ = some (.int .i64 bc) from by (repeat (first | exact (cell_al_new _ _ _ _ _ _ (by first | rfl | (simp only [World.size_alloc]))).trans rfl | refine (cell_al_old _ _ _ (by first | omega | (simp only [World.size_alloc]; omega))).trans ?_)))
  have Q3 := Lib.hid (show ((w.alloc (.cells #[.int .i64 ac, .int .i64 a2] 34)).alloc (.cells #[.int .i64 bc, .int .i64 b2] 34)).cell? ⟨w.heap.size + 1, 1, none⟩ = some (.int .i64 b2) from by (repeat (first | exact (cell_al_new _ _ _ _ _ _ (by first | rfl | (simp only [World.size_alloc]))).trans rfl | refine (cell_al_old _ _ _ (by first | omega | (simp only [World.size_alloc]; omega))).trans ?_)))
  generalize (w.alloc (.cells #[.int .i64 ac, .int .i64 a2] 34)).alloc (.cells #[.int .i64 bc, .int .i64 b2] 34) = wb at *
  refine (HL.out _).mono ?_
  rintro r w1 ⟨rfl, hb⟩
  have f1 : Fut wb w1 := hb
  have q0 := f1.cell Q0.out
  have q1 := f1.cell Q1.out
  have q2 := f1.cell Q2.out
  have q3 := f1.cell Q3.out
  have HF1 := Lib.hid f1
  clear hb f1
  cases x with
  | true =>
    go_wp2_with fail
    go_ret
    exact ⟨by rw [HV.out]; rfl, HF.out.trans HF1.out⟩
  | false =>
    go_wp2_with fail
    refine (HM.out _).mono ?_
    rintro r w2 ⟨rfl, hb⟩
    have f2 : Fut w1 w2 := hb
    have HF2 := Lib.hid f2
    clear hb f2
    cases y with
    | true =>
      go_wp2_with fail
      go_ret
      exact ⟨by rw [HV.out]; rfl, HF.out.trans (HF1.out.trans HF2.out)⟩
    | false =>
      go_wp2_with fail
      go_ret
      exact ⟨by rw [HV.out]; rfl, HF.out.trans (HF1.out.trans HF2.out)⟩
theorem cmpL_at (es : List EE) : ∀ (k l : List DT) (j : Nat) (x y : DT), k[j]? = some x → l[j]? = some y → cmpL es (k.drop j) (l.drop j) = if cmpD es x y ≠ 0 then cmpD es x y else cmpL es (k.drop (j + 1)) (l.drop (j + 1)) := by
  intro k l j x y hx hy
  obtain ⟨h1, h2⟩ := List.getElem?_eq_some_iff.1 hx
  obtain ⟨h3, h4⟩ := List.getElem?_eq_some_iff.1 hy
  rw [List.drop_eq_getElem_cons h1, List.drop_eq_getElem_cons h3, cmpL, h2, h4]
/-- both of the same node: their kids belong together -/
theorem kids_both {N : Int} {es : List EI} (hvd : validB N es = true) {e f r : Int} {k l : List DI} (h1 : PK.validD (EEs es) (.node e (k.map toDT)) r = true) (h2 : PK.validD (EEs es) (.node f (l.map toDT)) r = true) (hef : e = f) : k.length = l.length ∧ ∀ (i : Nat) x y, k[i]? = some x → l[i]? = some y → ∃ t, PK.validD (EEs es) (toDT x) t = true ∧ PK.validD (EEs es) (toDT y) t = true := by
  subst hef
  obtain ⟨q, x, e1, e2, e3, e4, e5⟩ := validD_parts hvd h1
  obtain ⟨q', x', f1, f2, f3, f4, f5⟩ := validD_parts hvd h2
  obtain rfl : q = q' := by omega
  rw [e2] at f2
  obtain rfl := Option.some.inj f2
  refine ⟨by omega, fun i a b ha hb => ?_⟩
  have hlt := (List.getElem?_eq_some_iff.1 ha).1
  obtain ⟨t, ht⟩ : ∃ t, x.t[i]? = some t := ⟨_, List.getElem?_eq_getElem (by omega)⟩
  exact ⟨t, e5 i a t ha ht, f5 i b t hb ht⟩
set_option maxHeartbeats 12800000 in
theorem dcmp_any (N : Int) (A : Option Addr) (n c : Nat) (es : List EI) (hl : es.length = n) (hn : n ≤ maxLen) (hvd : validB N es = true) (htl : ∀ e ∈ es, e.t.length ≤ 1000000) (a : DI) : ∀ (b : DI) (r : Int) w, PK.validD (EEs es) (toDT a) r = true → PK.validD (EEs es) (toDT b) r = true → RdE w A es → RdD w a → RdD w b →
    Calls Try.prog 16 #[hv N A n c, dv a, dv b] w fun q w' => q = .returned (.int .i64 (cmpD (EEs es) (toDT a) (toDT b))) ∧ Below w.heap.size w w' := by
  have HVA := Lib.hid (fun (d : DI) r w => dvalue_any N A n c es hl hn hvd htl d r w)
  have HVD := Lib.hid hvd
  clear hl hvd hn htl
  induction a using DI.ind with
  | h e B d k ih =>
    rintro ⟨f, C, g, l⟩ r w hv1 hv2 hR hRD hRD2
    have HVA1 := Lib.hid (fun w' (hf : Fut w w') => HVA.out (.node e B d k) r w' hv1 (hR.fut hf) (hRD.fut hf))
    have HVA2 := Lib.hid (fun w' (hf : Fut w w') => HVA.out (.node f C g l) r w' hv2 (hR.fut hf) (hRD2.fut hf))
    obtain ⟨hS, hkl, hK⟩ := hRD.parts
    obtain ⟨hS2, hll, hK2⟩ := hRD2.parts
    rw [toDT_eq] at hv1 hv2
    have HKB := Lib.hid (kids_both HVD.out hv1 hv2)
    have HR := Lib.hid hR
    have HS := Lib.hid hS
    have HK := Lib.hid hK
    have HS2 := Lib.hid hS2
    have HK2 := Lib.hid hK2
    have HI := Lib.hid ih
    obtain ⟨m, hm⟩ : ∃ m, k.length = m := ⟨_, rfl⟩
    obtain ⟨p, hp⟩ : ∃ p, l.length = p := ⟨_, rfl⟩
    have hm63 : m ≤ 9223372036854775807 := hm ▸ hkl
    have hp63 : p ≤ 9223372036854775807 := hp ▸ hll
    have HM := Lib.hid hm
    have HP := Lib.hid hp
    have HCD := Lib.hid (show cmpD (EEs es) (toDT (.node e B d k)) (toDT (.node f C g l)) = if cmpV (val (EEs es) (toDT (.node e B d k))) (val (EEs es) (toDT (.node f C g l))) ≠ 0 then cmpV (val (EEs es) (toDT (.node e B d k))) (val (EEs es) (toDT (.node f C g l))) else if cmpI e f ≠ 0 then cmpI e f else cmpL (EEs es) (k.map toDT) (l.map toDT) from by rw [toDT_eq, toDT_eq, cmpD])
    have HVS := Lib.hid (fun w' => values_any (val (EEs es) (toDT (.node e B d k))) (val (EEs es) (toDT (.node f C g l))) w')
    generalize cmpD (EEs es) (toDT (.node e B d k)) (toDT (.node f C g l)) = res at HCD ⊢
    generalize cmpV (val (EEs es) (toDT (.node e B d k))) (val (EEs es) (toDT (.node f C g l))) = z at HCD HVS
    generalize val (EEs es) (toDT (.node e B d k)) = v1 at HVA1 HVS
    generalize val (EEs es) (toDT (.node f C g l)) = v2 at HVA2 HVS
    obtain ⟨v1c, v1s⟩ := v1
    obtain ⟨v2c, v2s⟩ := v2
    have HVA1' := Lib.hid (show ∀ w', Fut w w' → Calls Try.prog 14 #[hv N A n c, .agg #[.int .i64 e, .slice B m d]] w' fun q w2 => q = .returned (vv ⟨v1c, v1s⟩) ∧ Below w'.heap.size w' w2 from fun w' hf => by rw [← HM.out]; exact HVA1.out w' hf)
    have HVA2' := Lib.hid (show ∀ w', Fut w w' → Calls Try.prog 14 #[hv N A n c, .agg #[.int .i64 f, .slice C p g]] w' fun q w2 => q = .returned (vv ⟨v2c, v2s⟩) ∧ Below w'.heap.size w' w2 from fun w' hf => by rw [← HP.out]; exact HVA2.out w' hf)
    simp only [dv, DI.e, DI.A, DI.c, DI.k, hm, hp]
    clear hS hK hS2 hK2 hR ih hkl hll hm hp hRD hRD2 hv1 hv2 HVA1 HVA2
    have HF := Lib.hid (show Fut w (((w.alloc (.cells #[.int .i64 N, .slice A n c] 24)).alloc (.cells #[.int .i64 e, .slice B m d] 27)).alloc (.cells #[.int .i64 f, .slice C p g] 27)) from (((Fut.refl w).alloc _).alloc _).alloc _)
    have Q0 := Lib.hid (show (((w.alloc (.cells #[.int .i64 N, .slice A n c] 24)).alloc (.cells #[.int .i64 e, .slice B m d] 27)).alloc (.cells #[.int .i64 f, .slice C p g] 27)).cell? ⟨w.heap.size, 0, none⟩ = some (.int .i64 N) from by (repeat (first | exact (cell_al_new _ _ _ _ _ _ (by first | rfl | (simp only [World.size_alloc]))).trans rfl | refine (cell_al_old _ _ _ (by first | omega | (simp only [World.size_alloc]; omega))).trans ?_)))
    have Q1 := Lib.hid (show (((w.alloc (.cells #[.int .i64 N, .slice A n c] 24)).alloc (.cells #[.int .i64 e, .slice B m d] 27)).alloc (.cells #[.int .i64 f, .slice C p g] 27)).cell? ⟨w.heap.size, 1, none⟩ = some (.slice A n c) from by (repeat (first | exact (cell_al_new _ _ _ _ _ _ (by first | rfl | (simp only [World.size_alloc]))).trans rfl | refine (cell_al_old _ _ _ (by first | omega | (simp only [World.size_alloc]; omega))).trans ?_)))
    have Q2 := Lib.hid (show (((w.alloc (.cells #[.int .i64 N, .slice A n c] 24)).alloc (.cells #[.int .i64 e, .slice B m d] 27)).alloc (.cells #[.int .i64 f, .slice C p g] 27)).cell? ⟨w.heap.size + 1, 0, none⟩ = some (.int .i64 e) from by (repeat (first | exact (cell_al_new _ _ _ _ _ _ (by first | rfl | (simp only [World.size_alloc]))).trans rfl | refine (cell_al_old _ _ _ (by first | omega | (simp only [World.size_alloc]; omega))).trans ?_)))
    have Q3 := Lib.hid (show (((w.alloc (.cells #[.int .i64 N, .slice A n c] 24)).alloc (.cells #[.int .i64 e, .slice B m d] 27)).alloc (.cells #[.int .i64 f, .slice C p g] 27)).cell? ⟨w.heap.size + 1, 1, none⟩ = some (.slice B m d) from by (repeat (first | exact (cell_al_new _ _ _ _ _ _ (by first | rfl | (simp only [World.size_alloc]))).trans rfl | refine (cell_al_old _ _ _ (by first | omega | (simp only [World.size_alloc]; omega))).trans ?_)))
    have Q4 := Lib.hid (show (((w.alloc (.cells #[.int .i64 N, .slice A n c] 24)).alloc (.cells #[.int .i64 e, .slice B m d] 27)).alloc (.cells #[.int .i64 f, .slice C p g] 27)).cell? ⟨w.heap.size + 1 + 1, 0, none⟩ = some (.int .i64 f) from by (repeat (first | exact (cell_al_new _ _ _ _ _ _ (by first | rfl | (simp only [World.size_alloc]))).trans rfl | refine (cell_al_old _ _ _ (by first | omega | (simp only [World.size_alloc]; omega))).trans ?_)))
    have Q5 := Lib.hid (show (((w.alloc (.cells #[.int .i64 N, .slice A n c] 24)).alloc (.cells #[.int .i64 e, .slice B m d] 27)).alloc (.cells #[.int .i64 f, .slice C p g] 27)).cell? ⟨w.heap.size + 1 + 1, 1, none⟩ = some (.slice C p g) from by (repeat (first | exact (cell_al_new _ _ _ _ _ _ (by first | rfl | (simp only [World.size_alloc]))).trans rfl | refine (cell_al_old _ _ _ (by first | omega | (simp only [World.size_alloc]; omega))).trans ?_)))
    go_enter Try.func16, Try.ntmps16
    go_wp2_with fail
    generalize ((w.alloc (.cells #[.int .i64 N, .slice A n c] 24)).alloc (.cells #[.int .i64 e, .slice B m d] 27)).alloc (.cells #[.int .i64 f, .slice C p g] 27) = wb at *
    have q0 := cell_fut Q0.out
    have q1 := cell_fut Q1.out
    have q2 := cell_fut Q2.out
    have q3 := cell_fut Q3.out
    have q4 := cell_fut Q4.out
    have q5 := cell_fut Q5.out
    go_step3
    go_wp2_with fail
    refine wp_region_M o_derivation_Compare_1 (by kernel_rfl) (by kernel_rfl) (by intro c a d v w h; cases d <;> exact h) ?_; unfold o_derivation_Compare_1
    iterate 4 (refine wpF_h rfl rfl (fun K hK => ?_); go_simp; refine hK _ _ ?_; clear hK K)
    refine wpF_o rfl rfl (fun K hK => ?_)
    go_simp
    go_at_call 14
    refine (HVA1'.out _ (HF.out.trans (by show Fut _ _; repeat (first | (with_reducible assumption) | exact Fut.refl _ | exact Fut.fut _ _ _ | refine Fut.drew ?_ | refine Fut.alloc ?_ _ | refine Fut.trans ?_ (Fut.fut _ _ _) | refine Fut.trans ?_ (by assumption))))).mono ?_
    rintro r1 w1 ⟨rfl, hb⟩
    have f1 : Fut _ w1 := hb
    refine hK _ _ (.inr f1) ?_
    have HF1 := Lib.hid (show Fut wb w1 from (Fut.refl wb).drew.trans f1)
    clear hb f1 hK K
    refine wpF_o rfl rfl (fun K hK => ?_)
    go_simp
    go_at_call 14
    refine (HVA2'.out _ (HF.out.trans HF1.out)).mono ?_
    rintro r1 w2 ⟨rfl, hb⟩
    have f1 : Fut _ w2 := hb
    refine hK _ _ (.inr f1) ?_
    have HF2 := Lib.hid (HF1.out.trans f1)
    clear hb f1 hK K HF1
    refine wpF_o rfl rfl (fun K hK => ?_)
    go_simp
    go_at_call 28
    refine (HVS.out _).mono ?_
    rintro r1 w3 ⟨rfl, hb⟩
    have f1 : Fut _ w3 := hb
    refine hK _ _ (.inr f1) ?_
    have HF3 := Lib.hid (HF2.out.trans f1)
    clear hb f1 hK K HF2 q0 q1 q2 q3 q4 q5
    (refine wpF_h rfl rfl (fun K hK => ?_); go_simp; refine hK _ _ ?_; clear hK K)
    refine wpF_nil ?_
    have p2 := HF3.out.cell Q2.out
    have p3 := HF3.out.cell Q3.out
    have p4 := HF3.out.cell Q4.out
    by_cases hz : z = 0
    · subst hz
      by_cases hef : e = f
      · obtain ⟨hmp, hkb⟩ := HKB.out hef
        have HKB2 := Lib.hid hkb
        rw [HM.out, HP.out] at hmp
        subst hef
        subst hmp
        have HC2 := Lib.hid (show res = cmpL (EEs es) (k.map toDT) (l.map toDT) from by rw [HCD.out]; simp [(cmpI_zero (a := e) (b := e)).2 rfl])
        clear hkb HKB
        go_wp2_with fail
        go_step3
        go_wp2_with fail
        clear p2 p3 p4
        go_loopw [8, 35] (fun x i wr => ∃ j : Nat, j ≤ m ∧ i = .int .i64 j ∧ x = .int .i64 0 ∧ Hid (cmpL (EEs es) (k.map toDT) (l.map toDT) = cmpL (EEs es) ((k.map toDT).drop j) ((l.map toDT).drop j)) ∧ Fut wb wr) (fun _ i _ => m - (intOf i).toNat)
        case atStart => exact ⟨0, Nat.zero_le _, rfl, rfl, Lib.hid rfl, HF3.out⟩
        case round =>
          obtain ⟨j, hj, rfl, rfl, hall, hF⟩ := hrel
          have HFR := Lib.hid hF
          by_cases hlt : j < m
          · obtain ⟨x, hx⟩ := get_lt HM.out hlt
            obtain ⟨y, hy⟩ := get_lt HP.out hlt
            obtain ⟨b1, o1, rfl, hd⟩ := HS.out j x hx
            obtain ⟨b2, o2, rfl, he⟩ := HS2.out j y hy
            have d0 := hF.cell (HF.out.cell (hd 0 _ (by decide) rfl))
            have d1 := hF.cell (HF.out.cell (hd 1 _ (by decide) rfl))
            have e0 := hF.cell (HF.out.cell (he 0 _ (by decide) rfl))
            have e1 := hF.cell (HF.out.cell (he 1 _ (by decide) rfl))
            simp only [Nat.add_zero] at d0 e0
            obtain ⟨t, ht1, ht2⟩ := HKB2.out j x y hx hy
            have HC := Lib.hid (fun w' (hf : Fut wr w') => HI.out x (List.mem_of_getElem? hx) y t w' ht1 ht2 (((HR.out.fut HF.out).fut hF).fut hf) ((((HK.out x (List.mem_of_getElem? hx)).fut HF.out).fut hF).fut hf) ((((HK2.out y (List.mem_of_getElem? hy)).fut HF.out).fut hF).fut hf))
            have HAT := Lib.hid (cmpL_at (EEs es) (k.map toDT) (l.map toDT) j (toDT x) (toDT y) (by rw [List.getElem?_map, hx]; rfl) (by rw [List.getElem?_map, hy]; rfl))
            generalize cmpD (EEs es) (toDT x) (toDT y) = zz at HC HAT
            have q0 := hF.cell Q0.out
            have q1 := hF.cell Q1.out
            have q5 := hF.cell Q5.out
            clear hx hy hd he hF ht1 ht2
            obtain ⟨xe, xA, xc, xk⟩ := x
            obtain ⟨ye, yA, yc, yk⟩ := y
            simp only [DI.e, DI.A, DI.c, DI.k] at d0 d1 e0 e1
            go_wp2_with fail
            have f1 := (Fut.refl wr).alloc (.cells #[.int .i64 xe, .slice xA xk.length xc] 27)
            have k0 : (wr.alloc (.cells #[.int .i64 xe, .slice xA xk.length xc] 27)).cell? ⟨wr.heap.size, 0, none⟩ = some (.int .i64 xe) := by (repeat (first | exact (cell_al_new _ _ _ _ _ _ (by first | rfl | (simp only [World.size_alloc]))).trans rfl | refine (cell_al_old _ _ _ (by first | omega | (simp only [World.size_alloc]; omega))).trans ?_))
            have k1 : (wr.alloc (.cells #[.int .i64 xe, .slice xA xk.length xc] 27)).cell? ⟨wr.heap.size, 1, none⟩ = some (.slice xA xk.length xc) := by (repeat (first | exact (cell_al_new _ _ _ _ _ _ (by first | rfl | (simp only [World.size_alloc]))).trans rfl | refine (cell_al_old _ _ _ (by first | omega | (simp only [World.size_alloc]; omega))).trans ?_))
            replace e0 := cell_fut (f1.cell e0)
            replace e1 := cell_fut (f1.cell e1)
            replace q0 := cell_fut (f1.cell q0)
            replace q1 := cell_fut (f1.cell q1)
            replace q5 := cell_fut (f1.cell q5)
            replace k0 := cell_fut k0
            replace k1 := cell_fut k1
            have HF4 := Lib.hid f1
            generalize wr.alloc (.cells #[.int .i64 xe, .slice xA xk.length xc] 27) = wi at *
            clear f1 d0 d1
            refine wp_region_M o_derivation_Compare_12 (by kernel_rfl) (by kernel_rfl) (by intro c a d v w h; cases d <;> exact h) ?_; unfold o_derivation_Compare_12
            iterate 7 (refine wpF_h rfl rfl (fun K hK => ?_); go_simp; refine hK _ _ ?_; clear hK K)
            (refine wpF_o rfl rfl (fun K hK => ?_); go_simp; first | (go_at_call 16; refine (HC.out _ (HF4.out.trans (by show Fut _ _; repeat (first | (with_reducible assumption) | exact Fut.refl _ | exact Fut.fut _ _ _ | refine Fut.drew ?_ | refine Fut.alloc ?_ _ | refine Fut.trans ?_ (Fut.fut _ _ _) | refine Fut.trans ?_ (by assumption))))).mono ?_; rintro e w1 ⟨rfl, hb1⟩; have hf1 : Fut _ w1 := hb1; refine hK _ _ (.inr hf1) ?_; clear hK K hb1))
            (refine wpF_h rfl rfl (fun K hK => ?_); go_simp; refine hK _ _ ?_; clear hK K)
            refine wpF_nil ?_
            by_cases hzz : zz = 0
            · subst hzz
              have HA := Lib.hid (show cmpL (EEs es) (k.map toDT) (l.map toDT) = cmpL (EEs es) ((k.map toDT).drop (j + 1)) ((l.map toDT).drop (j + 1)) from by rw [hall.out, HAT.out]; simp)
              go_wp2_with fail
              exact ⟨⟨j + 1, by omega, by go_num, by first | rfl | trivial, HA, HFR.out.trans (HF4.out.trans (by show Fut _ _; repeat (first | (with_reducible assumption) | exact Fut.refl _ | exact Fut.fut _ _ _ | refine Fut.drew ?_ | refine Fut.alloc ?_ _ | refine Fut.trans ?_ (Fut.fut _ _ _) | refine Fut.trans ?_ (by assumption))))⟩, by simp [intOf]; omega⟩
            · have HA := Lib.hid (show res = zz from by rw [HC2.out, hall.out, HAT.out]; simp [hzz])
              obtain ⟨x1, x2, x3⟩ := cmpF_no hzz
              clear hzz
              go_wp2_with fail
              (try rw [Exit.noGoto_ret])
              go_ret
              exact ⟨by rw [HA.out]; rfl, HF.out.trans (HFR.out.trans (HF4.out.trans (by show Fut _ _; repeat (first | (with_reducible assumption) | exact Fut.refl _ | exact Fut.fut _ _ _ | refine Fut.drew ?_ | refine Fut.alloc ?_ _ | refine Fut.trans ?_ (Fut.fut _ _ _) | refine Fut.trans ?_ (by assumption)))))⟩
          · have HA := Lib.hid (show res = 0 from by
              rw [HC2.out, hall.out, List.drop_of_length_le (by rw [List.length_map, HM.out]; omega), List.drop_of_length_le (by rw [List.length_map, HP.out]; omega), cmpL])
            clear hF
            go_wp2_with fail
            (try rw [Exit.noGoto_ret])
            go_ret
            exact ⟨by rw [HA.out]; rfl, HF.out.trans HFR.out⟩
      · obtain ⟨x1, x2, x3⟩ := cmpF_no hef
        rcases Int.lt_or_gt_of_ne hef with hlt | hlt
        · have HA := Lib.hid (show res = -1 from by rw [HCD.out]; simp [cmpI, hlt])
          clear hef
          go_wp2_with fail
          (try rw [Exit.noGoto_ret])
          go_ret
          exact ⟨by rw [HA.out]; rfl, HF.out.trans HF3.out⟩
        · have HA := Lib.hid (show res = 1 from by rw [HCD.out]; simp [cmpI, hlt, show ¬ e < f by omega])
          have hlt2 : (e < f) = False := eq_false (by omega)
          clear hef hlt
          go_wp2_with fail
          (try rw [Exit.noGoto_ret])
          go_ret
          exact ⟨by rw [HA.out]; rfl, HF.out.trans HF3.out⟩
    · have HA := Lib.hid (show res = z from by rw [HCD.out]; simp [hz])
      obtain ⟨x1, x2, x3⟩ := cmpF_no hz
      clear hz p2 p3 p4
      go_wp2_with fail
      (try rw [Exit.noGoto_ret])
      go_ret
      exact ⟨by rw [HA.out]; rfl, HF.out.trans HF3.out⟩
end Go.Proofs.Ytfaekfonemobcaa
