/-
  Value of derivations, as the reference has it.
-/
import Derived.Test.YtfaekfonemobcaaD5
namespace Go.Proofs.Ytfaekfonemobcaa
open Go.RowKit Go.Deep PK
attribute [local go_sem] Oper.lit Oper.litS fut_fut fut_drew World.cell?_alloc_some
theorem rdval_res : Try.f15.results = #[.cell 4 34] := by kernel_rfl
set_option maxHeartbeats 6400000 in
theorem rdvalue_any (N : Int) (A : Option Addr) (n c : Nat) (es : List EI) (hl : es.length = n) (hn : n ≤ maxLen) (hvd : validB N es = true) (htl : ∀ e ∈ es, e.t.length ≤ 1000000) (d : DI) : ∀ (r : Int) w, PK.validD (EEs es) (toDT d) r = true → RdE w A es → RdD w d →
    Calls Try.prog 15 #[hv N A n c, dv d] w fun q w' => q = .returned (vv (val (EEs es) (toDT d))) ∧ Below w.heap.size w w' := by
  have HL := Lib.hid hl
  have HVD := Lib.hid hvd
  have HTL := Lib.hid htl
  have hn63 : n ≤ 9223372036854775807 := hn
  clear hl hvd hn htl
  induction d using DI.ind with
  | h e B d k ih =>
    intro r w hval hR hRD
    obtain ⟨hS, hkl, hK⟩ := hRD.parts
    rw [toDT_eq] at hval
    obtain ⟨q, x, rfl, hx, hxr, hxl, hkv⟩ := validD_parts HVD.out hval
    obtain ⟨b, o, rfl, hc⟩ := hR.1 q x hx
    have hq : q < n := by
      have := (List.getElem?_eq_some_iff.1 hx).1
      rw [HL.out] at this; exact this
    have HVN := Lib.hid (val_node (k := k.map toDT) hx)
    have HR := Lib.hid hR
    have HS := Lib.hid hS
    have HK := Lib.hid hK
    have HI := Lib.hid ih
    have HKV := Lib.hid hkv
    have hxt : x.t.length ≤ 1000000 := HTL.out x (List.mem_of_getElem? hx)
    obtain ⟨m, hm⟩ : ∃ m, k.length = m := ⟨_, rfl⟩
    have hm6 : m ≤ 1000000 := by omega
    have HM := Lib.hid hm
    have HXL := Lib.hid (hxl.trans hm)
    simp only [dv, DI.e, DI.A, DI.c, DI.k, hm]
    rw [toDT_eq]
    have hO := okE_parts ((validB_parts HVD.out).2.2 x (List.mem_of_getElem? hx))
    have HCC := Lib.hid (show 0 ≤ x.c ∧ x.c ≤ INF from ⟨hO.2.2.1, hO.2.2.2.1⟩)
    have c2 := hc 2 _ (by decide) rfl
    obtain ⟨xh, xt, xc, xl0, xl1, xA, xk⟩ := x
    simp only at c2 HCC HVN HXL HKV
    have C2 := Lib.hid c2
    clear hS hK hR ih hkl hm hRD hval hx hxr hxl hkv hc hxt hO c2
    go_enter Try.func15, Try.ntmps15
    go_wp2_with fail
    obtain ⟨wb, hwb⟩ : ∃ wb, wb = (((w.alloc (.cells #[.int .i64 N, .slice (some ⟨b, o, none⟩) n c] 24)).alloc (.cells #[.int .i64 q, .slice B m d] 27)).alloc (.cells #[.int .i64 0, .int .i64 0] 34)) := ⟨_, rfl⟩
    have HF := Lib.hid (show Fut w wb from by rw [hwb]; exact (((Fut.refl w).alloc _).alloc _).alloc _)
    have Q0 := Lib.hid (show wb.cell? ⟨w.heap.size, 0, none⟩ = some (.int .i64 N) from by rw [hwb]; (repeat (first | exact (cell_al_new _ _ _ _ _ _ (by first | rfl | (simp only [World.size_alloc]))).trans rfl | refine (cell_al_old _ _ _ (by first | omega | (simp only [World.size_alloc]; omega))).trans ?_)))
    have Q1 := Lib.hid (show wb.cell? ⟨w.heap.size, 1, none⟩ = some (.slice (some ⟨b, o, none⟩) n c) from by rw [hwb]; (repeat (first | exact (cell_al_new _ _ _ _ _ _ (by first | rfl | (simp only [World.size_alloc]))).trans rfl | refine (cell_al_old _ _ _ (by first | omega | (simp only [World.size_alloc]; omega))).trans ?_)))
    have Q2 := Lib.hid (show wb.cell? ⟨w.heap.size + 1, 0, none⟩ = some (.int .i64 q) from by rw [hwb]; (repeat (first | exact (cell_al_new _ _ _ _ _ _ (by first | rfl | (simp only [World.size_alloc]))).trans rfl | refine (cell_al_old _ _ _ (by first | omega | (simp only [World.size_alloc]; omega))).trans ?_)))
    have Q3 := Lib.hid (show wb.cell? ⟨w.heap.size + 1, 1, none⟩ = some (.slice B m d) from by rw [hwb]; (repeat (first | exact (cell_al_new _ _ _ _ _ _ (by first | rfl | (simp only [World.size_alloc]))).trans rfl | refine (cell_al_old _ _ _ (by first | omega | (simp only [World.size_alloc]; omega))).trans ?_)))
    have HZ := Lib.hid (show Blk wb (w.heap.size + 1 + 1) 34 #[.int .i64 0, .int .i64 0] from by rw [hwb]; exact heap_new' _ _ _ (by simp only [World.size_alloc]))
    rw [← hwb]
    clear hwb
    go_loopw [5, 6] (fun x i wr => ∃ j : Nat, j ≤ m ∧ i = .int .i64 j ∧ Hid (wr.ownsRow wb.heap.size 34 2 x j (((k.take j).map (fun d => val (EEs es) (toDT d))).flatMap encV)) ∧ Fut wb wr) (fun _ i _ => m - (intOf i).toNat)
    case atStart => exact ⟨0, Nat.zero_le _, rfl, Lib.hid (World.ownsRow_nil _ _ _ _), Fut.refl _⟩
    case round =>
      obtain ⟨j, hj, rfl, HO, hF⟩ := hrel
      have HF2 := Lib.hid hF
      obtain ⟨XA, Xc, rfl, _⟩ := own_form HO.out
      have q0 := hF.cell Q0.out
      have q1 := hF.cell Q1.out
      have q2 := hF.cell Q2.out
      have q3 := hF.cell Q3.out
      by_cases hlt : j < m
      · obtain ⟨y, hy⟩ := get_lt HM.out hlt
        obtain ⟨t, hty⟩ := get_lt HXL.out hlt
        obtain ⟨b1, o1, rfl, hd⟩ := HS.out j y hy
        have d0 := cell_fut (hF.cell (HF.out.cell (hd 0 _ (by decide) rfl)))
        have d1 := cell_fut (hF.cell (HF.out.cell (hd 1 _ (by decide) rfl)))
        simp only [Nat.add_zero] at d0
        have q3' := cell_fut q3
        replace q0 := cell_fut q0
        replace q1 := cell_fut q1
        have HY := Lib.hid hy
        have HC := Lib.hid (fun w' (hf : Fut wr w') => HI.out y (List.mem_of_getElem? hy) t w' (HKV.out j y t hy hty) (((HR.out.fut HF.out).fut hF).fut hf) ((((HK.out y (List.mem_of_getElem? hy)).fut HF.out).fut hF).fut hf))
        obtain ⟨z, hz⟩ : ∃ z, val (EEs es) (toDT y) = z := ⟨_, rfl⟩
        have HZV := Lib.hid hz
        rw [hz] at HC
        clear hy hty hd hF hz q2
        obtain ⟨ye, yA, yc, yk⟩ := y
        obtain ⟨zc, zs⟩ := z
        simp only [DI.e, DI.A, DI.c, DI.k] at d0 d1
        go_wp2_with fail
        refine wp_region_M o_emendateref30_Value_5 (by kernel_rfl) (by kernel_rfl) (by intro c a d v w h; cases d <;> exact h) ?_; unfold o_emendateref30_Value_5
        iterate 7 (refine wpF_h rfl rfl (fun K hK => ?_); go_simp; refine hK _ _ ?_; clear hK K)
        refine wpF_o rfl rfl (fun K hK => ?_)
        go_simp
        go_at_call 15
        refine (HC.out _ (Fut.refl wr).drew).mono ?_
        rintro r w1 ⟨rfl, hb⟩
        have f2 : Fut _ w1 := hb
        refine hK _ _ (.inr f2) ?_
        have HO1 := Lib.hid (World.ownsRow.alloc (own_fut (World.ownsRow.drew HO.out) f2) (.cells #[.int .i64 zc, .int .i64 zs] 34))
        have HF4 := Lib.hid (show Fut wb (w1.alloc (.cells #[.int .i64 zc, .int .i64 zs] 34)) from (HF2.out.trans ((Fut.refl wr).drew.trans f2)).alloc _)
        clear hb f2 HC hK K
        refine wpF_o rfl rfl (fun K hK => ?_)
        go_simp
        refine hK _ _ (.inr ((Fut.refl _).alloc _)) ?_
        clear hK K
        refine wpF_ol rfl (by kernel_rfl) rfl (fun K hK => ?_)
        refine wp_push 43 34 2 16 _ Try.underlying43 info_vv rfl (by decide) (by decide) (.tmp 14) (.tmp 22) rfl wb.heap.size (.slice XA j Xc) j _ rfl HO1.out w1.heap.size [.int .i64 zc, .int .i64 zs] rfl (heap_new' _ _ _ rfl) rfl (by simp [Value.oneCell']) (by omega) HF4.out.size ?_
        intro g cap w' h1 h2 h3
        refine hK _ _ ?_
        clear hK K
        (refine wpF_h rfl rfl (fun K hK => ?_); go_simp; refine hK _ _ ?_; clear hK K)
        refine wpF_nil ?_
        go_wp2_with fail
        refine ⟨⟨j + 1, by omega, by go_num, Lib.hid ?_, Below.grown HF4.out h2 HF4.out.size (fun q hq => (World.ownsRow.lt HO1.out q hq).1)⟩, by simp [intOf]; omega⟩
        rw [List.take_add_one, HY.out, List.map_append, List.flatMap_append]
        simp only [Option.toList_some, List.map_cons, List.map_nil, HZV.out]
        exact h1
      · have hjn : j = m := by omega
        obtain rfl := hjn
        have hl9 : k.take j = k := List.take_of_length_le (by rw [HM.out]; omega)
        have h9 := HO.out
        rw [hl9] at h9
        have h8 := RdS.of_own (enc := encV) encV_len (by decide) h9
        have c2 := hF.cell (HF.out.cell C2.out)
        have HCO := Lib.hid (rcombine_any xc XA j Xc (k.map (fun d => val (EEs es) (toDT d))) wr (by rw [List.length_map, HM.out]) (by unfold maxLen; omega) HCC.out (fun v hv => by
          obtain ⟨d, _, rfl⟩ := List.mem_map.1 hv
          exact val_ok (EEs_ok HVD.out) _) h8)
        generalize hcv : comb xc (k.map (fun d => val (EEs es) (toDT d))) = z at HCO
        have HCV := Lib.hid hcv
        obtain ⟨zc, zs⟩ := z
        clear hl9 h9 h8 hF hcv
        go_wp2_with fail
        refine HCO.out.mono ?_
        rintro r w1 ⟨rfl, hb⟩
        have f1 : Fut wr w1 := hb
        have hz1 := (HZ.out.fut HF2.out).fut f1
        have g4 := hz1.cell (i := 0) rfl
        have g5 := hz1.cell (i := 1) rfl
        have g2 := hz1.fz 0
        have g3 := hz1.fz 1
        have HZ3 := Lib.hid hz1
        have HF3 := Lib.hid (HF.out.trans (HF2.out.trans f1))
        clear hb f1 hz1
        go_wp2_with fail
        refine bodyPost_ret (results_cell_row rdval_res _ _ (w.heap.size + 1 + 1) _ _ _ _ rfl ((HZ3.out.set 0 (.int .i64 zc)).set 1 (.int .i64 zs)) Try.underlying34 rfl (by kernel_rfl)) rfl ?_
        exact ⟨by rw [HVN.out, List.map_map, show (val (EEs es) ∘ toDT) = (fun d => val (EEs es) (toDT d)) from rfl, HCV.out]; rfl, (HF3.out.setCell (p := ⟨w.heap.size + 1 + 1, 0, none⟩) (by simp only; omega) _).setCell (p := ⟨w.heap.size + 1 + 1, 1, none⟩) (by simp only; omega) _⟩
end Go.Proofs.Ytfaekfonemobcaa
