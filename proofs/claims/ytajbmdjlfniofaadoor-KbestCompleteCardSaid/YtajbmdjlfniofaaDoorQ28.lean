/-
  The law: the enumeration is in order.
-/
import Derived.Test.YtajbmdjlfniofaaDoorBL
import Derived.Test.YtajbmdjlfniofaaDoorBD
namespace Go.Proofs.YtajbmdjlfniofaaDoor
open Go.RowKit Go.Deep PK
attribute [local go_sem] Oper.lit Oper.litS fut_fut fut_drew World.cell?_alloc_some
attribute [local go_sem] fut_base_drew
theorem fld_v (x y : Int) (w : World) : (Instr.field 37 (vv ⟨x, y⟩) 0).run Tryd.prog w = .ok (.int .i64 x) w := by kernel_rfl
attribute [local go_sem] fld_v
set_option maxHeartbeats 12800000 in
set_option maxRecDepth 4000 in
theorem law_order (N : Int) (A : Option Addr) (n c : Nat) (es : List EI) (root : Int) (w : World) (hl : es.length = n) (hn : n ≤ maxLen) (hR : RdE w A es) :
    Calls Tryd.prog 5 #[hv N A n c, .int .i64 root] w fun e w' => e = .returned (.bool true) ∧ Fut w w' := by
  obtain ⟨w0, hw0⟩ : ∃ w0, w0 = w.alloc (.cells #[.int .i64 N, .slice A n c] 24) := ⟨_, rfl⟩
  have HF0 := Lib.hid (show Fut w w0 from by rw [hw0]; exact (Fut.refl w).alloc _)
  have HB0 := Lib.hid (show Blk w0 w.heap.size 24 #[.int .i64 N, .slice A n c] from by rw [hw0]; exact Blk.new _ _ _)
  have HR := Lib.hid hR
  have HL := Lib.hid hl
  have HN := Lib.hid hn
  clear hR hl hn
  go_enter Tryd.func5, Tryd.ntmps5
  go_wp2_with fail
  rw [← hw0]
  clear hw0
  refine (may_any N A n c es root w0 HL.out HN.out (HR.out.fut HF0.out)).mono ?_
  rintro r w1 ⟨⟨b, rfl, hb⟩, hf⟩
  have HM := Lib.hid hb
  have HF1 := Lib.hid hf
  clear hb hf
  cases b with
  | false =>
    go_wp2_with fail
    refine (awake_any _).mono ?_
    rintro r w2 ⟨rfl, hf⟩
    have HF2 := Lib.hid hf
    clear hf
    go_wp2_with fail
    go_returns
    exact ⟨rfl, HF0.out.trans (HF1.out.trans HF2.out)⟩
  | true =>
    obtain ⟨M, V, hm⟩ := HM.out rfl
    obtain rfl := hm.e
    obtain ⟨v, rfl⟩ : ∃ v : Nat, root = v := ⟨root.toNat, by have := hm.r0; omega⟩
    have hvM : v < M := by have := hm.r1; omega
    have HMO := Lib.hid hm
    have HVM := Lib.hid hvM
    have q0 := (HB0.out.fut HF1.out).cell (i := 0) rfl
    have q1 := (HB0.out.fut HF1.out).cell (i := 1) rfl
    clear hm hvM
    go_wp2_with fail
    refine (first_any M A n c es w1 HL.out HMO.out.n12 HMO.out.vd HMO.out.m8 HMO.out.tl V HMO.out.S HMO.out.s (HR.out.fut (HF0.out.trans HF1.out)) v HVM.out 10 (by omega)).mono ?_
    rintro r w2 ⟨⟨oA, oc, ks, rfl, r1, r2, r3, r4, r5, -⟩, hf⟩
    have HF2 := Lib.hid hf
    have HK := Lib.hid (And.intro r1 (And.intro r2 (And.intro r3 (r5 (by omega)))))
    obtain ⟨m, hm⟩ : ∃ m, ks.length = m := ⟨_, rfl⟩
    have hm10 : (m : Int) ≤ 10 := by have := (r5 (by omega)).1; omega
    have HLK := Lib.hid hm
    rw [hm]
    have HFA := Lib.hid (HF0.out.trans (HF1.out.trans HF2.out))
    have HFB := Lib.hid (HB0.out.fut (HF1.out.trans HF2.out))
    clear hf r1 r2 r3 r4 r5 q0 q1 hm
    go_wp2_with fail
    go_loopw [6] (fun i wr => ∃ j : Nat, j ≤ m ∧ i = .int .i64 j ∧ Fut w2 wr) (fun i _ => m - (intOf i).toNat)
    case atStart => exact ⟨0, Nat.zero_le _, rfl, Fut.refl _⟩
    case round =>
      obtain ⟨j, hj, rfl, hF⟩ := hrel
      have HF3 := Lib.hid hF
      by_cases hlt : j < m
      · obtain ⟨x, hx⟩ := get_lt HLK.out hlt
        obtain ⟨b, o, rfl, hc⟩ := HK.out.1 j x hx
        have HX := Lib.hid hx
        have hfd : FinD (EEs es) v (toDT x) := HK.out.2.2.1.fin (toDT x) (List.mem_map.2 ⟨x, List.mem_of_getElem? hx, rfl⟩)
        have HV := Lib.hid (fun w' (hf : Fut wr w') => rdvalid_any M A n c es HL.out HN.out HMO.out.vd x (v : Int) w' (HR.out.fut (HFA.out.trans (hF.trans hf))) ((HK.out.2.1 x (List.mem_of_getElem? hx)).fut (hF.trans hf)))
        have HW := Lib.hid (fun w' (hf : Fut wr w') => rdvalue_any M A n c es HL.out HN.out HMO.out.vd (fun e he => by have := HMO.out.tl e he; omega) x (v : Int) w' hfd.1 (HR.out.fut (HFA.out.trans (hF.trans hf))) ((HK.out.2.1 x (List.mem_of_getElem? hx)).fut (hF.trans hf)))
        rw [hfd.1] at HV
        have hvc := hfd.2
        have q0 := cell_fut ((HFB.out.fut hF).cell (i := 0) rfl)
        have q1 := cell_fut ((HFB.out.fut hF).cell (i := 1) rfl)
        have x0 := cell_fut (hF.cell (hc 0 _ (by decide) rfl))
        have x1 := cell_fut (hF.cell (hc 1 _ (by decide) rfl))
        simp only [Nat.add_zero] at x0
        have HFX := Lib.hid hfd
        clear hx hfd
        have hj0 : j = 0 ∨ ∃ i, j = i + 1 := by cases j <;> simp
        rcases hj0 with rfl | ⟨i, rfl⟩
        · clear hc hF
          simp only [Nat.zero_mul, Nat.add_zero] at x0 x1
          obtain ⟨xe, xA, xc, xk⟩ := x
          simp only [DI.e, DI.A, DI.c, DI.k] at x0 x1
          generalize val (EEs es) (toDT (.node xe xA xc xk)) = vl at HW hvc
          obtain ⟨vc, vs⟩ := vl
          have hvc' : ((1099511627776 : Int) ≤ vc) = False := eq_false (by unfold INF at hvc; simp only at hvc; omega)
          have fv := fld_v vc vs
          clear hvc
          go_wp2_with fail
          have f0 : Fut wr wr.drew := (Fut.refl wr).drew
          refine wp_region_M o_emendatelaw31_KbestOrder_7 (by kernel_rfl) (by kernel_rfl) (by intro c a d v w h; cases d <;> exact h) ?_; unfold o_emendatelaw31_KbestOrder_7
          iterate 6 (refine wpF_h rfl rfl (fun K hK => ?_); go_simp; refine hK _ _ ?_; clear hK K)
          refine wpF_o rfl rfl (fun K hK => ?_)
          go_simp
          go_at_call 16
          refine (HV.out _ f0).mono ?_
          rintro r w5 ⟨rfl, hb⟩
          have f5 : Fut wr w5 := f0.trans hb
          refine hK _ _ (.inr hb) ?_
          clear hK K hb
          iterate 7 (refine wpF_h rfl rfl (fun K hK => ?_); go_simp; refine hK _ _ ?_; clear hK K)
          refine wpF_o rfl rfl (fun K hK => ?_)
          go_simp
          go_at_call 17
          refine (HW.out _ f5).mono ?_
          rintro r w6 ⟨rfl, hb⟩
          have f6 : Fut wr w6 := f5.trans hb
          refine hK _ _ (.inr hb) ?_
          clear hK K hb
          iterate 7 (refine wpF_h rfl rfl (fun K hK => ?_); go_simp; refine hK _ _ ?_; clear hK K)
          iterate 10 (refine wpF_hs2 rfl rfl (fun K hK => ?_); go_simp; refine hK _ _ ?_; clear hK K)
          (refine wpF_os2 rfl rfl (fun K hK => ?_); go_simp; refine hK _ _ ?_; clear hK K)
          (refine wpF_hs2 rfl rfl (fun K hK => ?_); go_simp; refine hK _ _ ?_; clear hK K)
          iterate 2 (refine wpF_h rfl rfl (fun K hK => ?_); go_simp; refine hK _ _ ?_; clear hK K)
          refine wpF_nil ?_
          go_wp2_with fail
          exact ⟨⟨1, by omega, by go_num, HF3.out.trans f6⟩, by simp [intOf]; omega⟩
        · obtain ⟨y, hy⟩ := get_lt HLK.out (show i < m by omega)
          have y0 := cell_fut (hF.cell (by obtain ⟨b', o', e, h1⟩ := HK.out.1 i y hy; injection e with e; injection e with e1 e2; subst e1 e2; exact h1 0 _ (by decide) rfl : w2.cell? ⟨b, o + i * 2 + 0, none⟩ = some (.int .i64 y.e)))
          have y1 := cell_fut (hF.cell (by obtain ⟨b', o', e, h1⟩ := HK.out.1 i y hy; injection e with e; injection e with e1 e2; subst e1 e2; exact h1 1 _ (by decide) rfl : w2.cell? ⟨b, o + i * 2 + 1, none⟩ = some (.slice y.A y.k.length y.c)))
          simp only [Nat.add_zero] at y0
          have hyd : FinD (EEs es) v (toDT y) := HK.out.2.2.1.fin (toDT y) (List.mem_map.2 ⟨y, List.mem_of_getElem? hy, rfl⟩)
          have hlt2 : cmpD (EEs es) (toDT y) (toDT x) < 0 := HK.out.2.2.1.srt i (i + 1) _ _ (by omega) (by rw [List.getElem?_map, hy]; rfl) (by rw [List.getElem?_map, HX.out]; rfl)
          have HC := Lib.hid (fun w' (hf : Fut wr w') => rdcmp_any M A n c es HL.out HN.out HMO.out.vd (fun e he => by have := HMO.out.tl e he; omega) y x (v : Int) w' hyd.1 HFX.out.1 (HR.out.fut (HFA.out.trans (hF.trans hf))) ((HK.out.2.1 y (List.mem_of_getElem? hy)).fut (hF.trans hf)) ((HK.out.2.1 x (List.mem_of_getElem? HX.out)).fut (hF.trans hf)))
          have hnz : ((0 : Int) ≤ cmpD (EEs es) (toDT y) (toDT x)) = False := eq_false (by omega)
          clear hc hF hy hyd hlt2
          obtain ⟨xe, xA, xc, xk⟩ := x
          obtain ⟨ye, yA, yc, yk⟩ := y
          simp only [DI.e, DI.A, DI.c, DI.k] at x0 x1 y0 y1
          generalize val (EEs es) (toDT (.node xe xA xc xk)) = vl at HW hvc
          generalize cmpD (EEs es) (toDT (.node ye yA yc yk)) (toDT (.node xe xA xc xk)) = cc at HC hnz
          obtain ⟨vc, vs⟩ := vl
          have hvc' : ((1099511627776 : Int) ≤ vc) = False := eq_false (by unfold INF at hvc; simp only at hvc; omega)
          have fv := fld_v vc vs
          clear hvc
          have hi1 : ((0 : Int) < (i : Int) + 1) = True := eq_true (by omega)
          have hwi : IntKind.i64.wrap (i : Int) = (i : Int) := by rw [IntKind.wrap_i64]; omega
          have hii : ((0 : Int) ≤ (i : Int)) = True := eq_true (by omega)
          have him : ((i : Int) < (m : Int)) = True := eq_true (by omega)
          have hi0 : ((0 : Int) ≤ (i : Int) + 1) = True := eq_true (by omega)
          go_wp2_with fail
          have f0 : Fut wr wr.drew := (Fut.refl wr).drew
          refine wp_region_M o_emendatelaw31_KbestOrder_7 (by kernel_rfl) (by kernel_rfl) (by intro c a d v w h; cases d <;> exact h) ?_; unfold o_emendatelaw31_KbestOrder_7
          iterate 6 (refine wpF_h rfl rfl (fun K hK => ?_); go_simp; refine hK _ _ ?_; clear hK K)
          refine wpF_o rfl rfl (fun K hK => ?_)
          go_simp
          go_at_call 16
          refine (HV.out _ f0).mono ?_
          rintro r w5 ⟨rfl, hb⟩
          have f5 : Fut wr w5 := f0.trans hb
          refine hK _ _ (.inr hb) ?_
          clear hK K hb
          iterate 7 (refine wpF_h rfl rfl (fun K hK => ?_); go_simp; refine hK _ _ ?_; clear hK K)
          refine wpF_o rfl rfl (fun K hK => ?_)
          go_simp
          go_at_call 17
          refine (HW.out _ f5).mono ?_
          rintro r w6 ⟨rfl, hb⟩
          have f6 : Fut wr w6 := f5.trans hb
          refine hK _ _ (.inr hb) ?_
          clear hK K hb
          iterate 17 (refine wpF_h rfl rfl (fun K hK => ?_); go_simp; refine hK _ _ ?_; clear hK K)
          refine wpF_o rfl rfl (fun K hK => ?_)
          go_simp
          go_at_call 18
          refine (HC.out _ f6).mono ?_
          rintro r w7 ⟨rfl, hb⟩
          have f7 : Fut wr w7 := f6.trans hb
          refine hK _ _ (.inr hb) ?_
          clear hK K hb
          iterate 3 (refine wpF_h rfl rfl (fun K hK => ?_); go_simp; refine hK _ _ ?_; clear hK K)
          refine wpF_nil ?_
          go_wp2_with fail
          exact ⟨⟨i + 1 + 1, by omega, by go_num, HF3.out.trans f7⟩, by simp [intOf]; omega⟩
      · clear hF
        go_wp2_with fail
        refine (awake_any _).mono ?_
        rintro r w4 ⟨rfl, hf⟩
        have HF4 := Lib.hid (show Fut wr w4 from hf)
        clear hf
        go_wp2_with fail
        go_returns
        exact ⟨rfl, HFA.out.trans (HF3.out.trans HF4.out)⟩
end Go.Proofs.YtajbmdjlfniofaaDoor
