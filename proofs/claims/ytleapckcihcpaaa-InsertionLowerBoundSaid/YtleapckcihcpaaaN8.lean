/-
  A derivation turned into a parse.
-/
import Derived.Test.YtleapckcihcpaaaN7
import Derived.Test.YtleapckcihcpaaaD12
namespace Go.Proofs.Ytleapckcihcpaaa
open Go.RowKit Go.Deep PK
attribute [local go_sem] Oper.lit Oper.litS fut_fut fut_drew World.cell?_alloc_some
theorem info_pp : (Try.prog.info? 33).map (fun i => (i.zero, i.size, i.bytes)) = some (some (.agg #[.int .i64 0, .slice none 0 0]), 2, 32) := by kernel_rfl
theorem par_res : Try.f33.results = #[.cell 3 33] := by kernel_rfl
set_option maxHeartbeats 6400000 in
theorem parse1_any (es : List EE) (htl : ∀ e ∈ es, e.t.length ≤ 1000000) (pb : Nat) (d : DI) : ∀ (r : Int) w, validD es (toDT d) r = true → w.cell? ⟨pb, 0, none⟩ = some (Value.func (.func 33) #[] #[.pointer (some ⟨pb, 0, none⟩)]) → RdD w d →
    Calls Try.prog 33 #[dv d, .pointer (some ⟨pb, 0, none⟩)] w fun q w' => (∃ x, q = .returned (dv x) ∧ toDT x = toDT d ∧ RdP (fun b => w.heap.size ≤ b) w' x) ∧ Below w.heap.size w w' := by
  have HTL := Lib.hid htl
  clear htl
  induction d using DI.ind with
  | h e D dc k ih =>
    intro r w hval hpb hRD
    obtain ⟨hS, _, hK⟩ := hRD.parts
    rw [toDT_eq] at hval
    obtain ⟨E, hE, _, hlen, hkv⟩ := (validD_iff _ _ _ _).1 hval
    have hm6' : k.length ≤ 1000000 := by
      have := HTL.out E (edge_mem hE)
      rw [hlen, List.length_map] at this; exact this
    rw [List.length_map] at hlen
    have HS := Lib.hid hS
    have HK := Lib.hid hK
    have HKV := Lib.hid hkv
    have HLN := Lib.hid hlen
    have HPB := Lib.hid hpb
    have HI := Lib.hid ih
    obtain ⟨m, hm⟩ : ∃ m, k.length = m := ⟨_, rfl⟩
    have hm6 : m ≤ 1000000 := by omega
    have HM := Lib.hid hm
    simp only [dv, DI.e, DI.A, DI.c, DI.k, hm]
    clear hS hK hRD ih hm hm6' hval hpb hE hkv hlen
    obtain ⟨wb, hwb⟩ : ∃ wb, wb = ((w.alloc (.cells #[.int .i64 e, .slice D m dc] 68)).alloc (.cells #[.int .i64 0, .slice none 0 0] 33)).alloc (.cells #[.int .i64 e, .slice none 0 0] 33) := ⟨_, rfl⟩
    have HF := Lib.hid (show Fut w wb from by rw [hwb]; exact (((Fut.refl w).alloc _).alloc _).alloc _)
    have HSZ := Lib.hid (show wb.heap.size = w.heap.size + 3 from by rw [hwb]; simp only [World.size_alloc])
    have HZ := Lib.hid (show Blk wb (w.heap.size + 1) 33 #[.int .i64 0, .slice none 0 0] from by rw [hwb]; (repeat (first | exact heap_new' _ _ _ (by first | rfl | (simp only [World.size_alloc])) | refine (blk_alloc_lt _ _ _ (by first | omega | (simp only [World.size_alloc]; omega))).trans ?_)))
    have HD := Lib.hid (show Blk wb (w.heap.size + 1 + 1) 33 #[.int .i64 e, .slice none 0 0] from by rw [hwb]; (repeat (first | exact heap_new' _ _ _ (by first | rfl | (simp only [World.size_alloc])) | refine (blk_alloc_lt _ _ _ (by first | omega | (simp only [World.size_alloc]; omega))).trans ?_)))
    have HBX := Lib.hid (show ((w.alloc (.cells #[.int .i64 e, .slice D m dc] 68)).alloc (.cells #[.int .i64 0, .slice none 0 0] 33)).cell? ⟨w.heap.size, 0, none⟩ = some (.int .i64 e) from by (repeat (first | exact (cell_al_new _ _ _ _ _ _ (by first | rfl | (simp only [World.size_alloc]))).trans rfl | refine (cell_al_old _ _ _ (by first | omega | (simp only [World.size_alloc]; omega))).trans ?_)))
    have HBY := Lib.hid (show wb.cell? ⟨w.heap.size, 1, none⟩ = some (.slice D m dc) from by rw [hwb]; (repeat (first | exact (cell_al_new _ _ _ _ _ _ (by first | rfl | (simp only [World.size_alloc]))).trans rfl | refine (cell_al_old _ _ _ (by first | omega | (simp only [World.size_alloc]; omega))).trans ?_)))
    have b0 := HBX.out
    have b1 := HBY.out
    rw [hwb] at b1
    go_enter Try.func33, Try.ntmps33
    go_wp2_with fail
    rw [← hwb]
    clear hwb b0 b1
    go_loopw [13] (fun i wr => ∃ (j : Nat) (ks : List DI) (XA : Option Addr) (Xc : Nat), j ≤ m ∧ i = .int .i64 j ∧ Hid (ks.length = j) ∧ Hid (∀ (i : Nat) x y, ks[i]? = some x → k[i]? = some y → toDT x = toDT y)
      ∧ Hid (wr.ownsRow wb.heap.size 33 2 (.slice XA j Xc) j (ks.flatMap encD)) ∧ Blk wr (w.heap.size + 1 + 1) 33 #[.int .i64 e, .slice XA j Xc]
      ∧ Hid (∀ d ∈ ks, RdP (fun b => wb.heap.size ≤ b ∧ (Value.slice XA j Xc).ownBlock ≠ some b) wr d) ∧ FutS (fun k => k == w.heap.size + 1 + 1) wb wr) (fun i _ => m - (intOf i).toNat)
    case atStart => exact ⟨0, [], none, 0, Nat.zero_le _, rfl, Lib.hid rfl, Lib.hid (fun i d t h => by simp at h), Lib.hid (World.ownsRow_nil _ _ _ _), HD.out, Lib.hid (fun d h => by simp at h), FutS.refl _⟩
    case round =>
      obtain ⟨j, ks, XA, Xc, hj, rfl, HKL, HFO, HO, hB, HRP, hF⟩ := hrel
      obtain ⟨wx, rfl⟩ : ∃ q, q = wr := ⟨_, rfl⟩
      have HF2 := Lib.hid hF
      have HB := Lib.hid hB
      have HFW := Lib.hid (hF.fut HF.out (fun k hk => by
        have := beq_iff_eq.1 hk
        omega))
      by_cases hlt : j < m
      · obtain ⟨y, hy⟩ := get_lt HM.out hlt
        obtain ⟨b2, o2, rfl, hd⟩ := HS.out j y hy
        have d0 := HFW.out.cell (hd 0 _ (by decide) rfl)
        have d1 := HFW.out.cell (hd 1 _ (by decide) rfl)
        simp only [Nat.add_zero] at d0
        obtain ⟨t, hty⟩ : ∃ t, E.t[j]? = some t := ⟨_, List.getElem?_eq_getElem (by rw [HLN.out, HM.out]; exact hlt)⟩
        have HC := Lib.hid (fun w' (hf : Fut wx w') => HI.out y (List.mem_of_getElem? hy) (t : Int) w' (HKV.out j (toDT y) t (by rw [List.getElem?_map, hy]; rfl) hty) (hf.cell (HFW.out.cell HPB.out)) ((HK.out y (List.mem_of_getElem? hy)).fut (HFW.out.trans hf)))
        have HY := Lib.hid hy
        have hqk := hB.cell (i := 1) rfl
        have hpc := HFW.out.cell HPB.out
        clear hy hd hF hB hty
        obtain ⟨ye, yA, yc, yk⟩ := y
        simp only [DI.e, DI.A, DI.c, DI.k] at d0 d1
        simp only [dv, DI.e, DI.A, DI.c, DI.k] at HC
        obtain ⟨yn, hyn⟩ : ∃ yn, yk.length = yn := ⟨_, rfl⟩
        rw [hyn] at HC d1
        clear hyn
        go_wp2_with fail
        have f1 := (Fut.refl wx).alloc (.cells #[.int .i64 ye, .slice yA yn yc] 68)
        have k0 := cell_fut (show (wx.alloc (.cells #[.int .i64 ye, .slice yA yn yc] 68)).cell? ⟨wx.heap.size, 0, none⟩ = some (.int .i64 ye) from by (repeat (first | exact (cell_al_new _ _ _ _ _ _ (by first | rfl | (simp only [World.size_alloc]))).trans rfl | refine (cell_al_old _ _ _ (by first | omega | (simp only [World.size_alloc]; omega))).trans ?_)))
        have k1 := cell_fut (show (wx.alloc (.cells #[.int .i64 ye, .slice yA yn yc] 68)).cell? ⟨wx.heap.size, 1, none⟩ = some (.slice yA yn yc) from by (repeat (first | exact (cell_al_new _ _ _ _ _ _ (by first | rfl | (simp only [World.size_alloc]))).trans rfl | refine (cell_al_old _ _ _ (by first | omega | (simp only [World.size_alloc]; omega))).trans ?_)))
        have qk := cell_fut (f1.cell hqk)
        have pc := cell_fut (f1.cell hpc)
        have HF3 := Lib.hid f1
        generalize wx.alloc (.cells #[.int .i64 ye, .slice yA yn yc] 68) = wi at *
        clear f1 d0 d1 hqk hpc
        refine wp_region_M o_insertion_Parse_1_5 (by kernel_rfl) (by kernel_rfl) (by intro c a d v w h; cases d <;> exact h) ?_; unfold o_insertion_Parse_1_5
        iterate 4 (refine wpF_h rfl rfl (fun K hK => ?_); go_simp; refine hK _ _ ?_; clear hK K)
        refine wpF_o rfl rfl (fun K hK => ?_)
        go_simp
        go_at_call 33
        refine (HC.out _ (HF3.out.drew)).mono ?_
        rintro r w1 ⟨⟨x, rfl, hfd, hrd⟩, hb⟩
        have f2 : Fut wx w1 := HF3.out.drew.trans hb
        have HFD := Lib.hid hfd
        have HRD := Lib.hid hrd
        have hws : wx.heap.size ≤ wi.heap.size := HF3.out.size
        refine hK _ _ (.inr hb) ?_
        have HB1 := Lib.hid (HB.out.fut f2)
        have HO1 := Lib.hid (World.ownsRow.alloc (own_fut HO.out f2) (.cells #[.int .i64 x.e, .slice x.A x.k.length x.c] 33))
        have HW1 := Lib.hid f2
        clear hb f2 HC hK K hfd hrd k0 k1 qk pc
        refine wpF_o rfl rfl (fun K hK => ?_)
        go_simp
        refine hK _ _ (.inr ((Fut.refl _).alloc _)) ?_
        clear hK K
        refine wpF_ol rfl (by kernel_rfl) rfl (fun K hK => ?_)
        refine wp_push 31 33 2 32 _ Try.underlying31 info_pp rfl (by decide) (by decide) (.tmp 18) (.tmp 22) rfl wb.heap.size (.slice XA j Xc) j _ rfl HO1.out w1.heap.size [.int .i64 x.e, .slice x.A x.k.length x.c] rfl (heap_new' _ _ _ rfl) rfl (by simp [Value.oneCell']) (by omega) (((HF2.out.then HW1.out).alloc _).size) ?_
        intro g cap w' h1 h2 h3
        refine hK _ _ ?_
        clear hK K
        have hgo : ∀ k, (Value.slice XA j Xc).ownBlock = some k → wb.heap.size ≤ k ∧ k < wx.heap.size := fun k hk => World.ownsRow.lt HO.out k hk
        have hB2 : Blk w' (w.heap.size + 1 + 1) 33 #[.int .i64 e, .slice XA j Xc] := (HB1.out.alloc _).grown h2 (fun e => by
          have := hgo _ e.symm
          have := HSZ.out
          omega)
        have q8 := hB2.cell (i := 1) rfl
        have q9 := hB2.fz 1
        have HB2 := Lib.hid hB2
        have HH1 := Lib.hid h1
        have HH2 := Lib.hid h2
        have HH3 := Lib.hid h3
        have HGO := Lib.hid hgo
        clear hB2 h1 h2 h3 hgo
        (refine wpF_h rfl rfl (fun K hK => ?_); go_simp; refine hK _ _ ?_; clear hK K)
        refine wpF_o rfl rfl (fun K hK => ?_)
        go_simp
        refine hK _ _ (.inl (by kernel_rfl)) ?_
        clear hK K
        refine wpF_nil ?_
        go_wp2_with fail
        have hgb : w.heap.size + 3 ≤ g ∧ g < w'.heap.size := by
          have := World.ownsRow.lt HH1.out g rfl
          have := HSZ.out
          omega
        refine ⟨⟨j + 1, ks ++ [x], some ⟨g, 0, none⟩, cap, by omega, by go_num, Lib.hid (by rw [List.length_append, HKL.out]; rfl), Lib.hid ?_, Lib.hid ?_, ?_, Lib.hid ?_, ?_⟩, by simp [intOf]; omega⟩
        · intro i y u hy hu
          by_cases e9 : i < j
          · rw [List.getElem?_append_left (by rw [HKL.out]; omega)] at hy
            exact HFO.out i y u hy hu
          · rw [List.getElem?_append_right (by rw [HKL.out]; omega), HKL.out] at hy
            have e8 : i = j := by
              have := (List.getElem?_eq_some_iff.1 hy).1
              simp at this; omega
            subst e8
            rw [Nat.sub_self] at hy
            obtain rfl : x = y := by simpa using hy
            rw [HY.out] at hu
            obtain rfl := Option.some.inj hu
            exact HFD.out
        · rw [List.flatMap_append]
          refine own_keep HH1.out (fun k hk => ?_)
          obtain rfl : g = k := by
            have h9 : (some g : Option Nat) = some k := hk
            exact Option.some.inj h9
          exact blk_setCell_other _ _ _ _ (by simp only; omega)
        · exact HB2.out.set 1 _
        · intro y hy
          have hkeep : ∀ b, b < w1.heap.size → (Value.slice XA j Xc).ownBlock ≠ some b → b ≠ w.heap.size + 1 + 1 → (w'.setCell ⟨w.heap.size + 1 + 1, 1, none⟩ (.slice (some ⟨g, 0, none⟩) (j + 1) cap)).heap[b]? = w1.heap[b]? := fun b h1 h2 h3 =>
            (blk_setCell_other _ _ _ _ h3).trans ((HH2.out.block b (by rw [World.size_alloc]; omega) (fun e => h2 e.symm)).trans (((Fut.refl w1).alloc _).block b h1))
          have hgn : ∀ b, b < w1.heap.size → (Value.slice XA j Xc).ownBlock ≠ some b → (Value.slice (some ⟨g, 0, none⟩) (j + 1) cap).ownBlock ≠ some b := fun b h1 h2 e => by
            have h9 : (some g : Option Nat) = some b := e
            obtain rfl := Option.some.inj h9
            rcases HH3.out with h3 | h3
            · exact h2 h3
            · rw [World.size_alloc] at h3; omega
          rcases List.mem_append.1 hy with hy | hy
          · refine (HRP.out y hy).keep (fun b hb hlt => ?_)
            have hs := HW1.out.size
            refine ⟨(hkeep b (by omega) hb.2 (by have := HSZ.out; omega)).trans (HW1.out.block b hlt), hb.1, hgn b (by omega) hb.2⟩
          · obtain rfl : y = x := by simpa using hy
            refine HRD.out.keep (fun b hb hlt => ?_)
            have hb' : wi.heap.size ≤ b := hb
            have hs := HF2.out.size
            have h2 : (Value.slice XA j Xc).ownBlock ≠ some b := fun e => by
              have := (HGO.out b e).2
              omega
            exact ⟨hkeep b hlt h2 (by have := HSZ.out; omega), by omega, hgn b hlt h2⟩
        · refine (((HF2.out.then HW1.out).alloc _).grown HH2.out (fun k hk => .inr (HGO.out k hk).1)).setCell (.inl (by simp)) _
      · have hjn : j = m := by omega
        obtain rfl := hjn
        have hz := HZ.out.futS hF (beq_eq_false_iff_ne.2 (by omega))
        have g4 := hz.cell (i := 0) rfl
        have g5 := hz.cell (i := 1) rfl
        have g2 := hz.fz 0
        have g3 := hz.fz 1
        have q0 := hB.cell (i := 0) rfl
        have q1 := hB.cell (i := 1) rfl
        have HZ3 := Lib.hid hz
        clear hz hB hF
        go_wp2_with fail
        refine bodyPost_ret (results_cell_row par_res _ _ (w.heap.size + 1) _ _ _ _ rfl ((HZ3.out.set 0 (.int .i64 e)).set 1 (.slice XA j Xc)) Try.underlying33 rfl (by kernel_rfl)) rfl ?_
        have hkeep : ∀ b, b ≠ w.heap.size + 1 → ((wx.setCell ⟨w.heap.size + 1, 0, none⟩ (.int .i64 e)).setCell ⟨w.heap.size + 1, 1, none⟩ (.slice XA j Xc)).heap[b]? = wx.heap[b]? := fun b h => (blk_setCell_other _ _ _ _ h).trans (blk_setCell_other _ _ _ _ h)
        have hKN := HKL.out
        have hsz := HSZ.out
        refine ⟨⟨.node e XA Xc ks, by simp only [dv, DI.e, DI.A, DI.c, DI.k, hKN]; rfl, ?_, ?_⟩, (HFW.out.setCell (p := ⟨w.heap.size + 1, 0, none⟩) (by simp only; omega) _).setCell (p := ⟨w.heap.size + 1, 1, none⟩) (by simp only; omega) _⟩
        · rw [toDT_eq, toDT_eq]
          congr 1
          apply List.ext_getElem?
          intro i
          rw [List.getElem?_map, List.getElem?_map]
          by_cases hi : i < j
          · obtain ⟨u, hu⟩ := get_lt hKN hi
            obtain ⟨v, hv⟩ := get_lt HM.out hi
            rw [hu, hv, Option.map_some, Option.map_some, HFO.out i u v hu hv]
          · rw [List.getElem?_eq_none (by omega), List.getElem?_eq_none (by rw [HM.out]; omega)]
        · have ho := own_keep (w' := (wx.setCell ⟨w.heap.size + 1, 0, none⟩ (.int .i64 e)).setCell ⟨w.heap.size + 1, 1, none⟩ (.slice XA j Xc)) HO.out (fun k hk => hkeep k (by
            have := (World.ownsRow.lt HO.out k hk).1
            omega))
          refine RdP.mk (RdS.of_own (enc := encD) encD_len (by decide) ho) (by rw [hKN]; unfold maxLen; omega) (fun b o hA hne => ?_) (fun d hd => (HRP.out d hd).keep (fun b hb hlt => ⟨hkeep b (by omega), by omega⟩))
          subst hA
          have := World.ownsRow.lt HO.out b rfl
          show w.heap.size ≤ b
          omega
end Go.Proofs.Ytleapckcihcpaaa
