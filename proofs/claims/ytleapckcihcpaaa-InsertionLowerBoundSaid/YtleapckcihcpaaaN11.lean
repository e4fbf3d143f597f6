/-
  Equal of the reference.
-/
import Derived.Test.YtleapckcihcpaaaN10
namespace Go.Proofs.Ytleapckcihcpaaa
open Go.RowKit
attribute [local go_sem] Oper.lit Oper.litS fut_fut fut_drew World.cell?_alloc_some
set_option maxHeartbeats 3200000 in
theorem same_any (a : DI) : ∀ b w, RdD w a → RdD w b → Calls Try.prog 16 #[dv a, dv b] w fun r w' => r = .returned (.bool (PK.eqD (toDT a) (toDT b))) ∧ Below w.heap.size w w' := by
  induction a using DI.ind with
  | h e A c k ih =>
    rintro ⟨f, B, d, l⟩ w hR hR2
    obtain ⟨hS, hkl, hK⟩ := hR.parts
    obtain ⟨hS2, hll, hL2⟩ := hR2.parts
    have HS := Lib.hid hS
    have HK := Lib.hid hK
    have HS2 := Lib.hid hS2
    have HK2 := Lib.hid hL2
    have HI := Lib.hid ih
    obtain ⟨n, hn⟩ : ∃ n, k.length = n := ⟨_, rfl⟩
    obtain ⟨m, hm⟩ : ∃ m, l.length = m := ⟨_, rfl⟩
    have hn63 : n ≤ 9223372036854775807 := hn ▸ hkl
    have hm63 : m ≤ 9223372036854775807 := hm ▸ hll
    have HL := Lib.hid hn
    have HM := Lib.hid hm
    simp only [dv, DI.e, DI.A, DI.c, DI.k, hn, hm]
    clear hS hK hR ih hkl hn hS2 hL2 hR2 hll hm
    by_cases hef : e = f
    · subst hef
      by_cases hnm : n = m
      · subst hnm
        have HG := Lib.hid (show k.map toDT = l.map toDT → PK.eqD (toDT (.node e A c k)) (toDT (.node e B d l)) = true from fun h => by rw [toDT_eq, toDT_eq, h, PK.eqD_iff])
        have HB := Lib.hid (show ¬ k.map toDT = l.map toDT → PK.eqD (toDT (.node e A c k)) (toDT (.node e B d l)) = false from fun h => by
          cases h9 : PK.eqD (toDT (.node e A c k)) (toDT (.node e B d l)) with
          | false => rfl
          | true =>
            rw [toDT_eq, toDT_eq, PK.eqD_iff] at h9
            injection h9 with h10 h11
            exact absurd h11 h)
        generalize PK.eqD (toDT (.node e A c k)) (toDT (.node e B d l)) = res at HG HB ⊢
        have HF := Lib.hid (show Fut w ((w.alloc (.cells #[.int .i64 e, .slice A n c] 33)).alloc (.cells #[.int .i64 e, .slice B n d] 33)) from ((Fut.refl w).alloc _).alloc _)
        have q1 : ((w.alloc (.cells #[.int .i64 e, .slice A n c] 33)).alloc (.cells #[.int .i64 e, .slice B n d] 33)).cell? ⟨w.heap.size, 1, none⟩ = some (.slice A n c) := by (repeat (first | exact (cell_al_new _ _ _ _ _ _ (by first | rfl | (simp only [World.size_alloc]))).trans rfl | refine (cell_al_old _ _ _ (by first | omega | (simp only [World.size_alloc]; omega))).trans ?_))
        have q2 : ((w.alloc (.cells #[.int .i64 e, .slice A n c] 33)).alloc (.cells #[.int .i64 e, .slice B n d] 33)).cell? ⟨w.heap.size + 1, 1, none⟩ = some (.slice B n d) := by (repeat (first | exact (cell_al_new _ _ _ _ _ _ (by first | rfl | (simp only [World.size_alloc]))).trans rfl | refine (cell_al_old _ _ _ (by first | omega | (simp only [World.size_alloc]; omega))).trans ?_))
        have Q1 := Lib.hid q1
        have Q2 := Lib.hid q2
        clear q1 q2
        go_enter Try.func16, Try.ntmps16
        go_wp2_with fail
        generalize (w.alloc (.cells #[.int .i64 e, .slice A n c] 33)).alloc (.cells #[.int .i64 e, .slice B n d] 33) = wb at *
        go_loopw [5] (fun i wr => ∃ j : Nat, j ≤ n ∧ i = .int .i64 j ∧ Hid ((k.take j).map toDT = (l.take j).map toDT) ∧ Fut wb wr) (fun i _ => n - (intOf i).toNat)
        case atStart => exact ⟨0, Nat.zero_le _, rfl, Lib.hid (by simp), Fut.refl _⟩
        case round =>
          obtain ⟨j, hj, rfl, hall, hF⟩ := hrel
          have HF2 := Lib.hid hF
          have q1 := hF.cell Q1.out
          have q2 := hF.cell Q2.out
          have q1' := cell_fut q1
          have q2' := cell_fut q2
          by_cases hlt : j < n
          · obtain ⟨x, hx⟩ := get_lt HL.out hlt
            obtain ⟨y, hy⟩ := get_lt HM.out hlt
            obtain ⟨b, o, rfl, hc⟩ := HS.out j x hx
            obtain ⟨b2, o2, rfl, hd⟩ := HS2.out j y hy
            have HX := Lib.hid hx
            have HY := Lib.hid hy
            have c0 := cell_fut (hF.cell (HF.out.cell (hc 0 _ (by decide) rfl)))
            have c1 := cell_fut (hF.cell (HF.out.cell (hc 1 _ (by decide) rfl)))
            have d0 := cell_fut (hF.cell (HF.out.cell (hd 0 _ (by decide) rfl)))
            have d1 := cell_fut (hF.cell (HF.out.cell (hd 1 _ (by decide) rfl)))
            simp only [Nat.add_zero] at c0 d0
            have HC := Lib.hid (fun w' (hf : Fut wr w') => HI.out x (List.mem_of_getElem? hx) y w' ((((HK.out x (List.mem_of_getElem? hx)).fut HF.out).fut hF).fut hf) ((((HK2.out y (List.mem_of_getElem? hy)).fut HF.out).fut hF).fut hf))
            have HE := Lib.hid (PK.eqD_iff (toDT x) (toDT y))
            clear hx hy hc hd hF
            obtain ⟨xe, xA, xc, xk⟩ := x
            obtain ⟨ye, yA, yc, yk⟩ := y
            simp only [DI.e, DI.A, DI.c, DI.k] at c0 c1 d0 d1
            generalize PK.eqD (toDT (.node xe xA xc xk)) (toDT (.node ye yA yc yk)) = bb at HC HE
            go_wp2_with fail
            refine wp_region_M o_emendateref38_Same_6 (by kernel_rfl) (by kernel_rfl) (by intro c a d v w h; cases d <;> exact h) ?_; unfold o_emendateref38_Same_6
            iterate 10 (refine wpF_h rfl rfl (fun K hK => ?_); go_simp; refine hK _ _ ?_; clear hK K)
            (refine wpF_o rfl rfl (fun K hK => ?_); go_simp; first | (go_at_call 16; refine (HC.out _ (by first | exact Fut.fut _ _ _ | exact Fut.refl _ | exact (Fut.refl _).drew)).mono ?_; rintro e w1 ⟨rfl, hb1⟩; have hf1 : Fut _ w1 := hb1; refine hK _ _ (.inr hf1) ?_; clear hK K hb1))
            (refine wpF_h rfl rfl (fun K hK => ?_); go_simp; refine hK _ _ ?_; clear hK K)
            refine wpF_nil ?_
            cases bb with
            | true =>
              have HA := Lib.hid (map_take hall.out HX.out HY.out (HE.out.1 rfl))
              go_wp2_with fail
              exact ⟨⟨j + 1, by omega, by go_num, HA, HF2.out.trans (by show Fut _ _; repeat (first | (with_reducible assumption) | exact Fut.refl _ | exact Fut.fut _ _ _ | refine Fut.drew ?_ | refine Fut.alloc ?_ _ | refine Fut.trans ?_ (Fut.fut _ _ _) | refine Fut.trans ?_ (by assumption)))⟩, by simp [intOf]; omega⟩
            | false =>
              have HA := Lib.hid (HB.out (fun h => by
                have h1 := congrArg (·[j]?) h
                simp only [List.getElem?_map, HX.out, HY.out, Option.map_some, Option.some.injEq] at h1
                have := HE.out.2 h1
                cases this))
              go_wp2_with fail
              go_ret
              exact ⟨by rw [HA.out]; rfl, HF.out.trans (HF2.out.trans (by show Fut _ _; repeat (first | (with_reducible assumption) | exact Fut.refl _ | exact Fut.fut _ _ _ | refine Fut.drew ?_ | refine Fut.alloc ?_ _ | refine Fut.trans ?_ (Fut.fut _ _ _) | refine Fut.trans ?_ (by assumption))))⟩
          · have HA := Lib.hid (HG.out (by
              have h9 := hall.out
              rw [List.take_of_length_le (by rw [HL.out]; omega), List.take_of_length_le (by rw [HM.out]; omega)] at h9
              exact h9))
            go_wp2_with fail
            go_ret
            exact ⟨by rw [HA.out]; rfl, HF.out.trans HF2.out⟩
      · have HA := Lib.hid (show PK.eqD (toDT (.node e A c k)) (toDT (.node e B d l)) = false by
          cases h9 : PK.eqD (toDT (.node e A c k)) (toDT (.node e B d l)) with
          | false => rfl
          | true =>
            rw [toDT_eq, toDT_eq, PK.eqD_iff] at h9
            injection h9 with h10 h11
            have := congrArg List.length h11
            rw [List.length_map, List.length_map, HL.out, HM.out] at this
            exact absurd this hnm)
        have hx : ¬ (n : Int) = (m : Int) := by omega
        obtain ⟨x1, x2, x3⟩ := cmpF_no hx
        clear hx hnm
        go_enter Try.func16, Try.ntmps16
        go_wp2_with fail
        go_ret
        exact ⟨by rw [HA.out]; rfl, ((Fut.refl w).alloc _).alloc _⟩
    · have HA := Lib.hid (show PK.eqD (toDT (.node e A c k)) (toDT (.node f B d l)) = false by
          cases h9 : PK.eqD (toDT (.node e A c k)) (toDT (.node f B d l)) with
          | false => rfl
          | true =>
            rw [toDT_eq, toDT_eq, PK.eqD_iff] at h9
            injection h9 with h10 h11
            exact absurd h10 hef)
      obtain ⟨x1, x2, x3⟩ := cmpF_no hef
      clear hef
      go_enter Try.func16, Try.ntmps16
      go_wp2_with fail
      go_ret
      exact ⟨by rw [HA.out]; rfl, ((Fut.refl w).alloc _).alloc _⟩
end Go.Proofs.Ytleapckcihcpaaa
