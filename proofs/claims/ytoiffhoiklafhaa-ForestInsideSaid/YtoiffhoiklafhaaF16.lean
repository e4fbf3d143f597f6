/-
  Ones; the law of inside values, walked.
-/
import Derived.Test.YtoiffhoiklafhaaF12
namespace Go.Proofs.Ytoiffhoiklafhaa
open Go.RowKit Go.Deep PK
attribute [local go_sem] Oper.lit Oper.litS fut_fut fut_drew World.cell?_alloc_some
attribute [local go_sem] fut_base_drew
theorem ones_any (m : Nat) (w : World) (hm : m ≤ 1000) :
    Calls Try.prog 27 #[.int .i64 m] w fun x w' => (∃ A c, x = .returned (.slice A m c) ∧ Rd1 w' A (Value.int .i64 ·) (List.replicate m (1 : Int))) ∧ Below w.heap.size w w' := by
  go_enter Try.func27, Try.ntmps27
  go_wp2_with fail
  go_loopw [3, 4] (fun x i wr => ∃ (j : Nat) (XA : Option Addr) (Xc : Nat), j ≤ m ∧ x = .slice XA j Xc ∧ i = .int .i64 j ∧ Hid (wr.ownsRow w.heap.size 3 1 (.slice XA j Xc) j ((List.replicate j (1 : Int)).map (Value.int .i64 ·))) ∧ Hid (Fut w wr)) (fun _ i _ => m - (intOf i).toNat)
  case atStart => exact ⟨0, none, 0, Nat.zero_le _, rfl, rfl, Lib.hid (World.ownsRow_nil _ _ _ _), Lib.hid (Fut.refl _)⟩
  case round =>
    obtain ⟨j, XA, Xc, hj, rfl, rfl, HO, HF⟩ := hrel
    by_cases hlt : j < m
    · have HOA := Lib.hid (World.ownsRow.alloc HO.out (.cells #[.int .i64 1] 3))
      have HFA := Lib.hid (HF.out.alloc (.cells #[.int .i64 1] 3))
      go_wp2_with (at_builtin; refine wpList_push rfl 27 3 1 8 _ Try.underlying27 info_int rfl (by decide) (by decide) (.tmp 10) (.tmp 11) rfl w.heap.size (.slice XA j Xc) j _ rfl HOA.out wr.heap.size [.int .i64 1] rfl (heap_new' _ _ _ rfl) rfl (by simp [Value.oneCell']) (by omega) HFA.out.size ?_; intro g cap w' h1 h2 h3)
      refine ⟨⟨j + 1, some ⟨g, 0, none⟩, cap, by omega, rfl, by go_num, Lib.hid ?_, Lib.hid (Below.grown HFA.out h2 HFA.out.size (fun q hq => (World.ownsRow.lt HOA.out q hq).1))⟩, by simp [intOf]; omega⟩
      rw [List.replicate_succ', List.map_append]
      exact h1
    · obtain rfl : j = m := by omega
      go_wp2_with fail
      go_ret
      exact ⟨⟨XA, Xc, rfl, Rd1.of_own (f := Value.int .i64) HO.out⟩, HF.out⟩
set_option maxHeartbeats 12800000 in
set_option maxRecDepth 4000 in
theorem law_fins (N : Int) (A : Option Addr) (n c : Nat) (es : List EI) (v8 : Int) (w : World) (hl : es.length = n) (hn : n ≤ maxLen) (hR : RdE w A es) (v8l : 0 ≤ v8) (v8h : v8 ≤ 255) :
    Calls Try.prog 7 #[hv N A n c, .int .u8 v8] w fun e w' => e = .returned (.bool true) ∧ Below w.heap.size w w' := by
  have HL := Lib.hid hl
  have HR := Lib.hid hR
  have HBO := Lib.hid (fun w' (hf : Fut w w') => bounded_any N A n c es w' hl hn (hR.fut hf))
  clear hl hn hR
  obtain ⟨wb, hwb⟩ : ∃ wb, wb = w.alloc (.cells #[.int .i64 N, .slice A n c] 24) := ⟨_, rfl⟩
  have HF := Lib.hid (show Fut w wb from by rw [hwb]; exact (Fut.refl w).alloc _)
  have HB := Lib.hid (show Blk wb w.heap.size 24 #[.int .i64 N, .slice A n c] from by rw [hwb]; (repeat (first | exact heap_new' _ _ _ (by first | rfl | (simp only [World.size_alloc])) | refine (blk_alloc_lt _ _ _ (by first | omega | (simp only [World.size_alloc]; omega))).trans ?_)))
  go_enter Try.func7, Try.ntmps7
  go_wp2_with fail
  rw [← hwb]
  clear hwb
  refine (HBO.out _ HF.out).mono ?_
  rintro x w1 ⟨⟨bo, rfl, hbo⟩, hb⟩
  have HF1 := Lib.hid (show Fut wb w1 from hb)
  have HBT := Lib.hid hbo
  clear hb hbo HBO
  cases bo with
  | false =>
    go_wp2_with fail
    refine (awake_any _).mono ?_
    rintro x w2 ⟨rfl, hb⟩
    have HF2 := Lib.hid (HF1.out.trans (show Fut w1 w2 from hb))
    clear hb
    go_wp2_with fail
    go_ret
    exact ⟨rfl, HF.out.trans HF2.out⟩
  | true =>
    obtain ⟨M, V, rfl, hsm, hsol, hsz⟩ := HBT.out rfl
    obtain ⟨h1, h2, h3, h4⟩ := smallB_parts hsm
    have HSO := Lib.hid hsol
    have HSZ := Lib.hid hsz
    have HVD := Lib.hid h4
    have HTL := Lib.hid h3
    have HSM := Lib.hid hsm
    have hM : M ≤ 30 := by omega
    have hM1 : 1 ≤ M := by have := (validB_parts h4).1; omega
    have hn60 : n ≤ 60 := by have := HL.out; omega
    clear h1 h2 h3 h4 hsm hsol hsz HBT
    have HVP := Lib.hid (validB_parts HVD.out).2.2
    have hwm : 0 ≤ v8 % (M : Int) ∧ v8 % (M : Int) < M := ⟨Int.emod_nonneg _ (by omega), Int.emod_lt_of_pos _ (by omega)⟩
    have q0 := (HB.out.fut HF1.out).cell (i := 0) rfl
    have q1 := (HB.out.fut HF1.out).cell (i := 1) rfl
    go_wp2_with fail
    obtain ⟨rt, hi⟩ : ∃ rt : Nat, v8 % (M : Int) = rt := ⟨(v8 % (M : Int)).toNat, by omega⟩
    rw [hi] at hwm ⊢
    have hrt : rt < M := by omega
    clear hi hwm
    have HFT := Lib.hid (fun w' (hf : Fut w w') => fTight_any M A n c es rt w' V HSO.out HL.out (by omega) HVD.out HTL.out (HR.out.fut hf))
    have HC1 := Lib.hid (fun w' (hf : Fut w w') => fCount_any M A n c es rt w' V HSO.out HSZ.out HL.out (by omega) HVD.out HTL.out (HR.out.fut hf))
    obtain ⟨m, hm⟩ : ∃ m, (fP M V es (rt : Int)).length = m := ⟨_, rfl⟩
    have hml : (fE M V es (rt : Int)).length = m := by unfold fE; rw [List.length_map, hm]
    have hmn : m ≤ 1000 := by rw [← hml]; exact Nat.le_trans (fE_le M V es rt) (by have := HL.out; omega)
    have hm63 : m ≤ 9223372036854775807 := by omega
    obtain ⟨l, hol⟩ := forest_ord (r := (rt : Int)) (N := M) HSO.out.ok HSZ.out (fun e he t ht => by have := (okE_parts (HVP.out e he)).2.2.2.2 t ht; omega)
    have HIN := Lib.hid (fun XA Xc B d w' (hr : RdE w' XA (fE M V es (rt : Int))) (hw : Rd1 w' B ((Value.int .i64) ·) (List.replicate m 1)) => inside_cnt M XA B m Xc d (fE M V es (rt : Int)) (List.replicate m 1) w' hml (List.length_replicate) hmn (forest_valid HVD.out) (by have := forest_sum (N := M) (V := V) (r := (rt : Int)) HTL.out (by have := HL.out; omega); rw [hml] at this; exact this) hr hw (fun x hx => by rw [(List.mem_replicate.1 hx).2]; decide))
    rw [hol] at HIN
    have HCN := Lib.hid (show insO 0 0 mulF plusF (fE M V es (rt : Int)) (List.replicate m 1) m l rt = cntR M V es (rt : Int) from by
      have h1 := rchB_root (N := M) (V := V) (es := es) (r := (rt : Int)) (by omega) (by omega)
      rw [Int.toNat_natCast] at h1
      have := ins_cnt (N := M) (r := (rt : Int)) HSO.out.ok HSZ.out (fun e he => by have := (okE_parts (HVP.out e he)).1; have := (okE_parts (HVP.out e he)).2.1; omega) hol rt h1 hrt (fun e he t ht => by have := (okE_parts (HVP.out e he)).2.2.2.2 t ht; omega)
      rw [hml] at this
      rw [this]
      unfold cntR
      rw [if_pos ⟨by omega, by omega⟩, Int.toNat_natCast])
    generalize cntR M V es (rt : Int) = z at HC1 HCN
    rw [hm] at HFT
    clear hm hml hol q0 q1
    refine (HFT.out _ (HF.out.trans HF1.out)).mono ?_
    rintro x w2 ⟨⟨XA, Xc, GA, Gc, rfl, hre, hrf⟩, hb⟩
    have f2 := (show Fut w1 w2 from hb).alloc (.cells #[.int .i64 M, .slice XA m Xc] 24)
    have HF2 := Lib.hid (HF1.out.trans f2)
    have HE2 := Lib.hid (hre.fut ((Fut.refl w2).alloc (.cells #[.int .i64 M, .slice XA m Xc] 24)))
    have HBG := Lib.hid (show Blk (w2.alloc (.cells #[.int .i64 M, .slice XA m Xc] 24)) w2.heap.size 24 #[.int .i64 M, .slice XA m Xc] from heap_new' _ _ _ rfl)
    clear hb hre hrf HFT f2
    go_wp2_with fail
    generalize w2.alloc (.cells #[.int .i64 M, .slice XA m Xc] 24) = wk at *
    have g0 := cell_fut (HBG.out.cell (i := 0) rfl)
    have g1 := cell_fut (HBG.out.cell (i := 1) rfl)
    refine wp_region_M o_emendatelaw32_ForestInside_5 (by kernel_rfl) (by kernel_rfl) (by intro c a d v w h; cases d <;> exact h) ?_; unfold o_emendatelaw32_ForestInside_5
    iterate 6 (refine wpF_h rfl rfl (fun K hK => ?_); go_simp; refine hK _ _ ?_; clear hK K)
    refine wpF_o rfl rfl (fun K hK => ?_)
    go_simp
    go_at_call 27
    refine (ones_any m _ hmn).mono ?_
    rintro x w3 ⟨⟨OA, Oc, rfl, hon⟩, hb⟩
    have f3 : Fut wk w3 := (Fut.refl wk).drew.trans hb
    refine hK _ _ (.inr hb) ?_
    clear hK K hb
    refine wpF_o rfl rfl (fun K hK => ?_)
    go_simp
    go_at_call 26
    refine (HIN.out XA Xc OA Oc _ (HE2.out.fut f3) hon).mono ?_
    rintro x w4 ⟨hir, hb⟩
    obtain ⟨cb, rfl, hrd⟩ := hir
    have f4 : Fut wk w4 := f3.trans hb
    refine hK _ _ (.inr hb) ?_
    clear hK K hb hon
    iterate 5 (refine wpF_h rfl rfl (fun K hK => ?_); go_simp; refine hK _ _ ?_; clear hK K)
    refine wpF_nil ?_
    have HF4 := Lib.hid (HF2.out.trans f4)
    obtain ⟨b5, o5, hb5, hc5⟩ := hrd rt _ (show ((List.range M).map _)[rt]? = _ from by rw [List.getElem?_map, List.getElem?_range hrt, Option.map_some])
    simp only [Option.some.injEq, Addr.mk.injEq] at hb5
    obtain ⟨rfl, rfl, _⟩ := hb5
    rw [HCN.out] at hc5
    simp only [Nat.zero_add] at hc5
    have u0 := cell_fut hc5
    have q0 := cell_fut ((HB.out.fut HF4.out).cell (i := 0) rfl)
    have q1 := cell_fut ((HB.out.fut HF4.out).cell (i := 1) rfl)
    clear hrd hc5 g0 g1 HIN
    go_wp2_with fail
    have f5 : Fut w4 w4.drew := (Fut.refl w4).drew
    refine wp_region_M o_emendatelaw32_ForestInside_6 (by kernel_rfl) (by kernel_rfl) (by intro c a d v w h; cases d <;> exact h) ?_; unfold o_emendatelaw32_ForestInside_6
    refine wpF_o rfl rfl (fun K hK => ?_)
    go_simp
    go_at_call 13
    refine (awake_any _).mono ?_
    rintro x w6 ⟨rfl, hb⟩
    have f6 : Fut w4 w6 := f5.trans hb
    refine hK _ _ (.inr hb) ?_
    clear hK K hb
    iterate 18 (refine wpF_h rfl rfl (fun K hK => ?_); go_simp; refine hK _ _ ?_; clear hK K)
    refine wpF_o rfl rfl (fun K hK => ?_)
    go_simp
    go_at_call 18
    refine (HC1.out _ ((HF.out.trans HF4.out).trans f6)).mono ?_
    rintro x w7 ⟨rfl, hb⟩
    have f7 : Fut w4 w7 := f6.trans hb
    refine hK _ _ (.inr hb) ?_
    clear hK K hb
    iterate 3 (refine wpF_h rfl rfl (fun K hK => ?_); go_simp; refine hK _ _ ?_; clear hK K)
    refine wpF_nil ?_
    go_wp2_with fail
    go_ret
    exact ⟨rfl, HF.out.trans (HF4.out.trans f7)⟩
end Go.Proofs.Ytoiffhoiklafhaa
