/-
  The law of Best, walked: it returns true and turns nothing that was there.
-/
import Derived.Test.YtfaekfonemobcaaD18
namespace Go.Proofs.Ytfaekfonemobcaa
open Go.RowKit Go.Deep PK
attribute [local go_sem] Oper.lit Oper.litS fut_fut fut_drew World.cell?_alloc_some
attribute [local go_sem] fut_base_drew
theorem bestR_one {N : Int} {es : List EI} {V : Nat → VV} {root : Int} {d x : DI} {e f : Int} (h : BestR N es V root d e) (k : BestR N es V root x f) : f = e ∧ toDT d = toDT x := by
  unfold BestR at h k
  rcases h with ⟨h1, h2, h3⟩ | ⟨h1, h2, h3, h4⟩ | ⟨h1, h2, h3, h4, h5⟩ | ⟨h1, h2, h3, h4, h5⟩ <;> rcases k with ⟨k1, k2, k3⟩ | ⟨k1, k2, k3, k4⟩ | ⟨k1, k2, k3, k4, k5⟩ | ⟨k1, k2, k3, k4, k5⟩ <;>
    first
    | (rw [h1] at k1; cases k1; done)
    | exact absurd k2 h2
    | exact absurd h2 k2
    | (exfalso; omega)
    | (subst h2 h3 k2 k3; exact ⟨rfl, rfl⟩)
    | (subst h3 h4 k3 k4; exact ⟨rfl, rfl⟩)
    | (subst h4 h5 k4 k5; exact ⟨rfl, rfl⟩)
    | (subst h4 k4; exact ⟨rfl, h5.unique k5⟩)
set_option maxHeartbeats 12800000 in
theorem law_dbest (N : Int) (A : Option Addr) (n c : Nat) (es : List EI) (root : Int) (w : World) (hl : es.length = n) (hn : n ≤ maxLen) (hR : RdE w A es) :
    Calls Try.prog 6 #[hv N A n c, .int .i64 root] w fun e w' => e = .returned (.bool true) ∧ Below w.heap.size w w' := by
  have HSH := Lib.hid (fun w' (hf : Fut w w') => short_any N A n c es hl hn w' (hR.fut hf))
  have HVA := Lib.hid (fun w' (hf : Fut w w') => rValid_any N A n c es w' hl hn (hR.fut hf))
  have hn63 : n ≤ 9223372036854775807 := hn
  have HL := Lib.hid hl
  have HN := Lib.hid hn
  have HR := Lib.hid hR
  clear hl hn hR
  obtain ⟨wb, hwb⟩ : ∃ wb, wb = w.alloc (.cells #[.int .i64 N, .slice A n c] 24) := ⟨_, rfl⟩
  have HF := Lib.hid (show Fut w wb from by rw [hwb]; exact (Fut.refl w).alloc _)
  have Q0 := Lib.hid (show wb.cell? ⟨w.heap.size, 0, none⟩ = some (.int .i64 N) from by rw [hwb]; (repeat (first | exact (cell_al_new _ _ _ _ _ _ (by first | rfl | (simp only [World.size_alloc]))).trans rfl | refine (cell_al_old _ _ _ (by first | omega | (simp only [World.size_alloc]; omega))).trans ?_)))
  have Q1 := Lib.hid (show wb.cell? ⟨w.heap.size, 1, none⟩ = some (.slice A n c) from by rw [hwb]; (repeat (first | exact (cell_al_new _ _ _ _ _ _ (by first | rfl | (simp only [World.size_alloc]))).trans rfl | refine (cell_al_old _ _ _ (by first | omega | (simp only [World.size_alloc]; omega))).trans ?_)))
  go_enter Try.func6, Try.ntmps6
  go_wp2_with fail
  rw [← hwb]
  clear hwb
  refine (awake_any _).mono ?_
  rintro r w1 ⟨rfl, hb⟩
  have HF1 := Lib.hid (show Fut wb w1 from hb)
  clear hb
  have g0 := HF1.out.cell Q0.out
  have g1 := HF1.out.cell Q1.out
  by_cases hN : N ≤ 30
  · by_cases hn60 : n ≤ 60
    · have x1 : ((30 : Int) < N) = False := eq_false (by omega)
      have x2 : ((60 : Int) < (n : Int)) = False := eq_false (by omega)
      clear hN hn60
      go_wp2_with fail
      refine (HVA.out _ (HF.out.trans HF1.out)).mono ?_
      rintro r w2 ⟨rfl, hb⟩
      have HF2 := Lib.hid (HF1.out.trans (show Fut w1 w2 from hb))
      clear hb g0 g1
      generalize hv9 : validB N es = bb
      have HV := Lib.hid hv9
      clear hv9
      cases bb with
      | false =>
        obtain ⟨V, hSV⟩ : ∃ V : Nat → VV, (validB N es = true → smallB N es = true ∧ Sol (EEs es) V ∧ ∀ i, (V i).s ≤ 1000) := ⟨fun _ => top, fun h => by rw [HV.out] at h; cases h⟩
        have HSV := Lib.hid hSV
        clear hSV
        have g0 := HF2.out.cell Q0.out
        have g1 := HF2.out.cell Q1.out
        go_wp2_with fail
        refine (best_any N A n c es HL.out HN.out V HSV.out root _ (HR.out.fut (HF.out.trans HF2.out))).mono ?_
        rintro r v1 ⟨⟨⟨de, dA, dc, dk⟩, e, rfl, hrd, hbr⟩, hb⟩
        have HG1 := Lib.hid (HF2.out.trans (show Fut _ v1 from hb))
        have HD := Lib.hid hrd.rd
        have HBR := Lib.hid hbr
        clear hb hrd hbr g0 g1
        simp only [dv, DI.e, DI.A, DI.c, DI.k]
        obtain ⟨dn, hdn⟩ : ∃ dn, dk.length = dn := ⟨_, rfl⟩
        rw [hdn]
        have HDN := Lib.hid hdn
        clear hdn
        have q0 := ((Fut.refl v1).alloc (.cells #[.int .i64 de, .slice dA dn dc] 27)).cell (HG1.out.cell Q0.out)
        have q1 := ((Fut.refl v1).alloc (.cells #[.int .i64 de, .slice dA dn dc] 27)).cell (HG1.out.cell Q1.out)
        go_wp2_with fail
        have HG2 := Lib.hid (HG1.out.trans ((Fut.refl v1).alloc (.cells #[.int .i64 de, .slice dA dn dc] 27)))
        have BD := Lib.hid (show Blk (v1.alloc (.cells #[.int .i64 de, .slice dA dn dc] 27)) v1.heap.size 27 #[.int .i64 de, .slice dA dn dc] from heap_new' _ _ _ rfl)
        have HD2 := Lib.hid (HD.out.fut ((Fut.refl v1).alloc (.cells #[.int .i64 de, .slice dA dn dc] 27)))
        clear HD HG1 q0 q1
        generalize v1.alloc (.cells #[.int .i64 de, .slice dA dn dc] 27) = v2 at *
        refine (rbest_any N A n c es HL.out HN.out V HSV.out root _ (HR.out.fut (HF.out.trans HG2.out))).mono ?_
        rintro r v3 ⟨⟨⟨xe, xA, xc, xk⟩, f, rfl, hrd, hbr⟩, hb⟩
        have hv3 : Fut v2 v3 := hb
        have HG3 := Lib.hid (HG2.out.trans hv3)
        have HX := Lib.hid hrd.rd
        have HBX := Lib.hid hbr
        obtain ⟨rfl, hdx⟩ := bestR_one HBR.out HBX.out
        have HDX := Lib.hid hdx
        simp only [dv, DI.e, DI.A, DI.c, DI.k]
        obtain ⟨xn, hxn⟩ : ∃ xn, xk.length = xn := ⟨_, rfl⟩
        rw [hxn]
        have HXN := Lib.hid hxn
        have hv4 := (Fut.refl v3).alloc (.cells #[.int .i64 xe, .slice xA xn xc] 27)
        have q0 := ((BD.out.fut hv3).fut hv4).cell (i := 0) rfl
        have q1 := ((BD.out.fut hv3).fut hv4).cell (i := 1) rfl
        have HD4 := Lib.hid ((HD2.out.fut hv3).fut hv4)
        have HX4 := Lib.hid (HX.out.fut hv4)
        have HG4 := Lib.hid (HG3.out.trans hv4)
        clear hb hrd hbr hv3 hv4 hdx hxn HBR HBX HX HG3
        go_wp2_with fail
        generalize v3.alloc (.cells #[.int .i64 xe, .slice xA xn xc] 27) = v4 at *
        have HE := Lib.hid (equal_any _ _ v4 HD4.out HX4.out)
        rw [HDX.out, (eqD_iff _ _).2 rfl] at HE
        simp only [dv, DI.e, DI.A, DI.c, DI.k, HDN.out, HXN.out] at HE
        refine HE.out.mono ?_
        rintro r v5 ⟨rfl, hb⟩
        have HG5 := Lib.hid (HG4.out.trans (show Fut _ v5 from hb))
        clear hb q0 q1
        go_wp2_with fail
        go_ret
        exact ⟨rfl, HF.out.trans HG5.out⟩
      | true =>
        have g0 := HF2.out.cell Q0.out
        have g1 := HF2.out.cell Q1.out
        go_wp2_with fail
        refine (HSH.out _ (HF.out.trans HF2.out)).mono ?_
        rintro r w3 ⟨⟨q, rfl, hq⟩, hb⟩
        have HF3 := Lib.hid (HF2.out.trans (show Fut w2 w3 from hb))
        have HQ := Lib.hid hq
        clear hb g0 g1 hq
        cases q with
        | false =>
          go_wp2_with fail
          go_ret
          exact ⟨rfl, HF.out.trans HF3.out⟩
        | true =>
          obtain ⟨hsm, V, hso, hsz⟩ := HQ.out (by first | rfl | trivial)
          have HSV := Lib.hid (show validB N es = true → smallB N es = true ∧ Sol (EEs es) V ∧ ∀ i, (V i).s ≤ 1000 from fun _ => ⟨hsm, hso, hsz⟩)
          clear hsm hso hsz
          have g0 := HF3.out.cell Q0.out
          have g1 := HF3.out.cell Q1.out
          go_wp2_with fail
          refine (best_any N A n c es HL.out HN.out V HSV.out root _ (HR.out.fut (HF.out.trans HF3.out))).mono ?_
          rintro r v1 ⟨⟨⟨de, dA, dc, dk⟩, e, rfl, hrd, hbr⟩, hb⟩
          have HG1 := Lib.hid (HF3.out.trans (show Fut _ v1 from hb))
          have HD := Lib.hid hrd.rd
          have HBR := Lib.hid hbr
          clear hb hrd hbr g0 g1
          simp only [dv, DI.e, DI.A, DI.c, DI.k]
          obtain ⟨dn, hdn⟩ : ∃ dn, dk.length = dn := ⟨_, rfl⟩
          rw [hdn]
          have HDN := Lib.hid hdn
          clear hdn
          have q0 := ((Fut.refl v1).alloc (.cells #[.int .i64 de, .slice dA dn dc] 27)).cell (HG1.out.cell Q0.out)
          have q1 := ((Fut.refl v1).alloc (.cells #[.int .i64 de, .slice dA dn dc] 27)).cell (HG1.out.cell Q1.out)
          go_wp2_with fail
          have HG2 := Lib.hid (HG1.out.trans ((Fut.refl v1).alloc (.cells #[.int .i64 de, .slice dA dn dc] 27)))
          have BD := Lib.hid (show Blk (v1.alloc (.cells #[.int .i64 de, .slice dA dn dc] 27)) v1.heap.size 27 #[.int .i64 de, .slice dA dn dc] from heap_new' _ _ _ rfl)
          have HD2 := Lib.hid (HD.out.fut ((Fut.refl v1).alloc (.cells #[.int .i64 de, .slice dA dn dc] 27)))
          clear HD HG1 q0 q1
          generalize v1.alloc (.cells #[.int .i64 de, .slice dA dn dc] 27) = v2 at *
          refine (rbest_any N A n c es HL.out HN.out V HSV.out root _ (HR.out.fut (HF.out.trans HG2.out))).mono ?_
          rintro r v3 ⟨⟨⟨xe, xA, xc, xk⟩, f, rfl, hrd, hbr⟩, hb⟩
          have hv3 : Fut v2 v3 := hb
          have HG3 := Lib.hid (HG2.out.trans hv3)
          have HX := Lib.hid hrd.rd
          have HBX := Lib.hid hbr
          obtain ⟨rfl, hdx⟩ := bestR_one HBR.out HBX.out
          have HDX := Lib.hid hdx
          simp only [dv, DI.e, DI.A, DI.c, DI.k]
          obtain ⟨xn, hxn⟩ : ∃ xn, xk.length = xn := ⟨_, rfl⟩
          rw [hxn]
          have HXN := Lib.hid hxn
          have hv4 := (Fut.refl v3).alloc (.cells #[.int .i64 xe, .slice xA xn xc] 27)
          have q0 := ((BD.out.fut hv3).fut hv4).cell (i := 0) rfl
          have q1 := ((BD.out.fut hv3).fut hv4).cell (i := 1) rfl
          have HD4 := Lib.hid ((HD2.out.fut hv3).fut hv4)
          have HX4 := Lib.hid (HX.out.fut hv4)
          have HG4 := Lib.hid (HG3.out.trans hv4)
          clear hb hrd hbr hv3 hv4 hdx hxn HBR HBX HX HG3
          go_wp2_with fail
          generalize v3.alloc (.cells #[.int .i64 xe, .slice xA xn xc] 27) = v4 at *
          have HE := Lib.hid (equal_any _ _ v4 HD4.out HX4.out)
          rw [HDX.out, (eqD_iff _ _).2 rfl] at HE
          simp only [dv, DI.e, DI.A, DI.c, DI.k, HDN.out, HXN.out] at HE
          refine HE.out.mono ?_
          rintro r v5 ⟨rfl, hb⟩
          have HG5 := Lib.hid (HG4.out.trans (show Fut _ v5 from hb))
          clear hb q0 q1
          go_wp2_with fail
          go_ret
          exact ⟨rfl, HF.out.trans HG5.out⟩
    · have x1 : ((30 : Int) < N) = False := eq_false (by omega)
      have x2 : ((60 : Int) < (n : Int)) = True := eq_true (by omega)
      clear hN hn60
      go_wp2_with fail
      go_ret
      exact ⟨rfl, HF.out.trans HF1.out⟩
  · have x1 : ((30 : Int) < N) = True := eq_true (by omega)
    clear hN
    go_wp2_with fail
    go_ret
    exact ⟨rfl, HF.out.trans HF1.out⟩
end Go.Proofs.Ytfaekfonemobcaa
