/-
  The law of the number of least derivations, walked.
-/
import Derived.Test.YtoiffhoiklafhaaF11
import Derived.Test.YtoiffhoiklafhaaBK
import Derived.Test.YtoiffhoiklafhaaBL
namespace Go.Proofs.Ytoiffhoiklafhaa
open Go.RowKit Go.Deep PK
attribute [local go_sem] Oper.lit Oper.litS fut_fut fut_drew World.cell?_alloc_some
attribute [local go_sem] fut_base_drew
set_option maxHeartbeats 12800000 in
set_option maxRecDepth 4000 in
theorem law_fcount (N : Int) (A : Option Addr) (n c : Nat) (es : List EI) (r : Int) (w : World) (hl : es.length = n) (hn : n ≤ maxLen) (hR : RdE w A es) :
    Calls Try.prog 4 #[hv N A n c, .int .i64 r] w fun e w' => e = .returned (.bool true) ∧ Below w.heap.size w w' := by
  have HL := Lib.hid hl
  have HR := Lib.hid hR
  have HBO := Lib.hid (fun w' (hf : Fut w w') => bounded_any N A n c es w' hl hn (hR.fut hf))
  clear hl hn hR
  obtain ⟨wb, hwb⟩ : ∃ wb, wb = w.alloc (.cells #[.int .i64 N, .slice A n c] 24) := ⟨_, rfl⟩
  have HF := Lib.hid (show Fut w wb from by rw [hwb]; exact (Fut.refl w).alloc _)
  have HB := Lib.hid (show Blk wb w.heap.size 24 #[.int .i64 N, .slice A n c] from by rw [hwb]; (repeat (first | exact heap_new' _ _ _ (by first | rfl | (simp only [World.size_alloc])) | refine (blk_alloc_lt _ _ _ (by first | omega | (simp only [World.size_alloc]; omega))).trans ?_)))
  go_enter Try.func4, Try.ntmps4
  go_wp2_with fail
  rw [← hwb]
  clear hwb
  refine (HBO.out _ HF.out).mono ?_
  rintro x w1 ⟨⟨bo, rfl, hbo⟩, hb⟩
  have HF1 := Lib.hid (show Fut wb w1 from hb)
  have HBT := Lib.hid hbo
  clear hb hbo HBO
  cases bo with
  | false =>
    go_wp2_with fail
    refine (awake_any _).mono ?_
    rintro x w2 ⟨rfl, hb⟩
    have HF2 := Lib.hid (HF1.out.trans (show Fut w1 w2 from hb))
    clear hb
    go_wp2_with fail
    go_ret
    exact ⟨rfl, HF.out.trans HF2.out⟩
  | true =>
    obtain ⟨M, V, rfl, hsm, hsol, hsz⟩ := HBT.out rfl
    obtain ⟨h1, h2, h3, h4⟩ := smallB_parts hsm
    have HSO := Lib.hid hsol
    have HSZ := Lib.hid hsz
    have HVD := Lib.hid h4
    have HTL := Lib.hid h3
    have HSM := Lib.hid hsm
    have hM : M ≤ 30 := by omega
    have hM1 : 1 ≤ M := by have := (validB_parts h4).1; omega
    have hn60 : n ≤ 60 := by have := HL.out; omega
    clear h1 h2 h3 h4 hsm hsol hsz HBT
    have HC1 := Lib.hid (fun w' (hf : Fut w w') => fCount_any M A n c es r w' V HSO.out HSZ.out HL.out (by omega) HVD.out HTL.out (HR.out.fut hf))
    have HC2 := Lib.hid (fun w' (hf : Fut w w') => rCount_any M A n c es r w' V HSO.out HSZ.out HL.out (by omega) HVD.out HTL.out (HR.out.fut hf))
    generalize cntR M V es r = z at HC1 HC2
    have q0 := cell_fut ((HB.out.fut HF1.out).cell (i := 0) rfl)
    have q1 := cell_fut ((HB.out.fut HF1.out).cell (i := 1) rfl)
    go_wp2_with fail
    have f1 : Fut w1 w1.drew := (Fut.refl w1).drew
    refine wp_region_M o_emendatelaw32_ForestCount_3 (by kernel_rfl) (by kernel_rfl) (by intro c a d v w h; cases d <;> exact h) ?_; unfold o_emendatelaw32_ForestCount_3
    refine wpF_o rfl rfl (fun K hK => ?_)
    go_simp
    go_at_call 13
    refine (awake_any _).mono ?_
    rintro x w2 ⟨rfl, hb⟩
    have f2 : Fut w1 w2 := f1.trans hb
    refine hK _ _ (.inr hb) ?_
    clear hK K hb
    iterate 5 (refine wpF_h rfl rfl (fun K hK => ?_); go_simp; refine hK _ _ ?_; clear hK K)
    refine wpF_o rfl rfl (fun K hK => ?_)
    go_simp
    go_at_call 18
    refine (HC1.out _ ((HF.out.trans HF1.out).trans f2)).mono ?_
    rintro x w3 ⟨rfl, hb⟩
    have f3 : Fut w1 w3 := f2.trans hb
    refine hK _ _ (.inr hb) ?_
    clear hK K hb
    refine wpF_o rfl rfl (fun K hK => ?_)
    go_simp
    go_at_call 19
    refine (HC2.out _ ((HF.out.trans HF1.out).trans f3)).mono ?_
    rintro x w4 ⟨rfl, hb⟩
    have f4 : Fut w1 w4 := f3.trans hb
    refine hK _ _ (.inr hb) ?_
    clear hK K hb
    iterate 3 (refine wpF_h rfl rfl (fun K hK => ?_); go_simp; refine hK _ _ ?_; clear hK K)
    refine wpF_nil ?_
    go_wp2_with fail
    go_ret
    exact ⟨rfl, HF.out.trans (HF1.out.trans f4)⟩
end Go.Proofs.Ytoiffhoiklafhaa
