/-
  The law: the first of the enumeration is the best.
-/
import Derived.Test.YtajbmdjlfniofaaDoorBL
import Derived.Test.YtajbmdjlfniofaaDoorBD
namespace Go.Proofs.YtajbmdjlfniofaaDoor
open Go.RowKit Go.Deep PK
attribute [local go_sem] Oper.lit Oper.litS fut_fut fut_drew World.cell?_alloc_some
attribute [local go_sem] fut_base_drew
set_option maxHeartbeats 12800000 in
set_option maxRecDepth 4000 in
theorem law_best (N : Int) (A : Option Addr) (n c : Nat) (es : List EI) (root : Int) (w : World) (hl : es.length = n) (hn : n ≤ maxLen) (hR : RdE w A es) :
    Calls Tryd.prog 7 #[hv N A n c, .int .i64 root] w fun e w' => e = .returned (.bool true) ∧ Fut w w' := by
  obtain ⟨w0, hw0⟩ : ∃ w0, w0 = w.alloc (.cells #[.int .i64 N, .slice A n c] 24) := ⟨_, rfl⟩
  have HF0 := Lib.hid (show Fut w w0 from by rw [hw0]; exact (Fut.refl w).alloc _)
  have HB0 := Lib.hid (show Blk w0 w.heap.size 24 #[.int .i64 N, .slice A n c] from by rw [hw0]; exact Blk.new _ _ _)
  have HR := Lib.hid hR
  have HL := Lib.hid hl
  have HN := Lib.hid hn
  clear hR hl hn
  go_enter Tryd.func7, Tryd.ntmps7
  go_wp2_with fail
  rw [← hw0]
  clear hw0
  refine (may_any N A n c es root w0 HL.out HN.out (HR.out.fut HF0.out)).mono ?_
  rintro r w1 ⟨⟨b, rfl, hb⟩, hf⟩
  have HM := Lib.hid hb
  have HF1 := Lib.hid hf
  clear hb hf
  cases b with
  | false =>
    go_wp2_with fail
    refine (awake_any _).mono ?_
    rintro r w2 ⟨rfl, hf⟩
    have HF2 := Lib.hid hf
    clear hf
    go_wp2_with fail
    go_returns
    exact ⟨rfl, HF0.out.trans (HF1.out.trans HF2.out)⟩
  | true =>
    obtain ⟨M, V, hm⟩ := HM.out rfl
    obtain rfl := hm.e
    obtain ⟨v, rfl⟩ : ∃ v : Nat, root = v := ⟨root.toNat, by have := hm.r0; omega⟩
    have hvM : v < M := by have := hm.r1; omega
    have HMO := Lib.hid hm
    have HVM := Lib.hid hvM
    have q0 := (HB0.out.fut HF1.out).cell (i := 0) rfl
    have q1 := (HB0.out.fut HF1.out).cell (i := 1) rfl
    clear hm hvM
    go_wp2_with fail
    refine (first_any M A n c es w1 HL.out HMO.out.n12 HMO.out.vd HMO.out.m8 HMO.out.tl V HMO.out.S HMO.out.s (HR.out.fut (HF0.out.trans HF1.out)) v HVM.out 1 (by omega)).mono ?_
    rintro r w2 ⟨⟨oA, oc, ks, rfl, r1, r2, r3, r4, r5, -⟩, hf⟩
    have HF2 := Lib.hid hf
    have HK := Lib.hid (And.intro r1 (And.intro r2 (And.intro r3 (r5 (by omega)))))
    clear hf r1 r2 r3 r4 r5 q0 q1
    have q0 := (HB0.out.fut (HF1.out.trans HF2.out)).cell (i := 0) rfl
    have q1 := (HB0.out.fut (HF1.out.trans HF2.out)).cell (i := 1) rfl
    go_wp2_with fail
    refine (best_gen M A n c es HL.out HN.out V (v : Int) (fun _ => ⟨by have := HMO.out.n12; omega, fun e he => by have := HMO.out.tl e he; omega, HMO.out.S, fun _ => HMO.out.s _⟩) w2 (HR.out.fut (HF0.out.trans (HF1.out.trans HF2.out)))).mono ?_
    rintro r w3 ⟨⟨d, e, rfl, hrp, hbr⟩, hb⟩
    have HF3 := Lib.hid (show Fut w2 w3 from hb)
    have HD := Lib.hid hrp.rd
    have hEE := EEs_ok HMO.out.vd
    have hcase : (ks = [] ∧ e = 6) ∨ (e = 0 ∧ ∃ x, ks = [x] ∧ toDT x = toDT d ∧ FinD (EEs es) v (toDT d)) := by
      obtain ⟨_, _, h3, h4, h5⟩ := HK.out
      unfold BestR at hbr
      rcases hbr with ⟨h1, _⟩ | ⟨_, h1, _⟩ | ⟨_, _, h1, h2, _⟩ | ⟨_, _, h1, h2, h6⟩
      · rw [HMO.out.vd] at h1; cases h1
      · exact absurd ⟨HMO.out.r0, HMO.out.r1⟩ h1
      · left
        refine ⟨?_, h2⟩
        cases ks with
        | nil => rfl
        | cons x ks =>
          have h7 := fin_of_FinD hEE HMO.out.S (h3.fin (toDT x) (by simp))
          rw [Int.toNat_natCast] at h1
          omega
      · right
        rw [Int.toNat_natCast] at h1 h6
        obtain ⟨g1, g2⟩ := fol_nth hEE HMO.out.S h1 h6
        have h8 : ks.length = 1 := by
          rcases h5 with h5 | h5
          · omega
          · have := h5.len h3 g2
            rw [List.length_map] at this
            simp at this
            omega
        obtain ⟨x, hx⟩ := List.length_eq_one_iff.1 h8
        refine ⟨h2, x, hx, ?_, g1⟩
        rw [hx] at h3
        exact h3.pref g2 0 _ _ rfl rfl
    clear hrp hbr hb q0 q1 hEE
    rcases hcase with ⟨rfl, rfl⟩ | ⟨rfl, x, rfl, hx, hfd⟩
    · go_wp2_with fail
      refine (awake_any _).mono ?_
      rintro r w4 ⟨rfl, hf⟩
      have HF4 := Lib.hid hf
      clear hf
      go_wp2_with fail
      go_returns
      exact ⟨rfl, HF0.out.trans (HF1.out.trans (HF2.out.trans (HF3.out.trans (((Fut.refl w3).alloc _).trans HF4.out))))⟩
    · obtain ⟨wd, hwd⟩ : ∃ wd, wd = w3.alloc (.cells #[.int .i64 d.e, .slice d.A d.k.length d.c] 35) := ⟨_, rfl⟩
      have HFD := Lib.hid (show Fut w3 wd from by rw [hwd]; exact (Fut.refl w3).alloc _)
      have HBD := Lib.hid (show Blk wd w3.heap.size 35 #[.int .i64 d.e, .slice d.A d.k.length d.c] from by rw [hwd]; exact Blk.new _ _ _)
      have FW := Lib.hid (HF0.out.trans (HF1.out.trans (HF2.out.trans (HF3.out.trans HFD.out))))
      have F2 := Lib.hid (HF3.out.trans HFD.out)
      obtain ⟨ob, oo, rfl, hcx⟩ := HK.out.1 0 x rfl
      have HV := Lib.hid (fun w' (hf : Fut wd w') => rdvalid_any M A n c es HL.out HN.out HMO.out.vd x (v : Int) w' (HR.out.fut (FW.out.trans hf)) ((HK.out.2.1 x (by simp)).fut (F2.out.trans hf)))
      have HC := Lib.hid (fun w' (hf : Fut wd w') => rdcmp_any M A n c es HL.out HN.out HMO.out.vd (fun e he => by have := HMO.out.tl e he; omega) x d (v : Int) w' (by rw [hx]; exact hfd.1) hfd.1 (HR.out.fut (FW.out.trans hf)) ((HK.out.2.1 x (by simp)).fut (F2.out.trans hf)) ((HD.out).fut (HFD.out.trans hf)))
      rw [hx, hfd.1] at HV
      rw [hx, cmpD_refl] at HC
      have q0 := cell_fut ((HB0.out.fut (HF1.out.trans (HF2.out.trans F2.out))).cell (i := 0) rfl)
      have q1 := cell_fut ((HB0.out.fut (HF1.out.trans (HF2.out.trans F2.out))).cell (i := 1) rfl)
      have d0 := cell_fut (HBD.out.cell (i := 0) rfl)
      have d1 := cell_fut (HBD.out.cell (i := 1) rfl)
      have x0 := cell_fut (F2.out.cell (hcx 0 _ (by decide) rfl))
      have x1 := cell_fut (F2.out.cell (hcx 1 _ (by decide) rfl))
      simp only [Nat.zero_mul, Nat.add_zero] at x0 x1
      clear hx hfd hcx
      go_wp2_with fail
      rw [← hwd]
      clear hwd
      have f0 : Fut wd wd.drew := (Fut.refl wd).drew
      refine wp_region_M o_emendatelaw31_KbestBest_7 (by kernel_rfl) (by kernel_rfl) (by intro c a d v w h; cases d <;> exact h) ?_; unfold o_emendatelaw31_KbestBest_7
      refine wpF_o rfl rfl (fun K hK => ?_)
      go_simp
      go_at_call 11
      refine (awake_any _).mono ?_
      rintro r w4 ⟨rfl, hb⟩
      have f4 : Fut wd w4 := f0.trans hb
      refine hK _ _ (.inr hb) ?_
      clear hK K hb
      iterate 11 (refine wpF_h rfl rfl (fun K hK => ?_); go_simp; refine hK _ _ ?_; clear hK K)
      refine wpF_o rfl rfl (fun K hK => ?_)
      go_simp
      go_at_call 16
      refine (HV.out _ f4).mono ?_
      rintro r w5 ⟨rfl, hb⟩
      have f5 : Fut wd w5 := f4.trans hb
      refine hK _ _ (.inr hb) ?_
      clear hK K hb
      iterate 7 (refine wpF_h rfl rfl (fun K hK => ?_); go_simp; refine hK _ _ ?_; clear hK K)
      refine wpF_o rfl rfl (fun K hK => ?_)
      go_simp
      go_at_call 18
      refine (HC.out _ f5).mono ?_
      rintro r w6 ⟨rfl, hb⟩
      have f6 : Fut wd w6 := f5.trans hb
      refine hK _ _ (.inr hb) ?_
      clear hK K hb
      iterate 3 (refine wpF_h rfl rfl (fun K hK => ?_); go_simp; refine hK _ _ ?_; clear hK K)
      refine wpF_nil ?_
      go_wp2_with fail
      go_returns
      exact ⟨rfl, FW.out.trans f6⟩
end Go.Proofs.YtajbmdjlfniofaaDoor
