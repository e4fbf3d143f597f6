/-
  The parse of the chosen rules, as the reference has it.
-/
import Derived.Test.YtleapckcihcpaaaN8
namespace Go.Proofs.Ytleapckcihcpaaa
open Go.RowKit Go.Deep PK
attribute [local go_sem] Oper.lit Oper.litS fut_fut fut_drew World.cell?_alloc_some
theorem bld_res : Try.f34.results = #[.cell 6 33] := by kernel_rfl
set_option maxHeartbeats 6400000 in
theorem build_any (T : Int) (N : Nat) (st : Int) (A : Option Addr) (n c : Nat) (rs : List NR) (ins : List Int) (hl : rs.length = n) (hvd : validN T N st rs = true) (hp : pricesB T ins = true) (V : Nat → VV) (hS : Sol (grE ins rs) V) (eb : Nat) (M : Nat) : ∀ (v : Nat) w, v < N → (V v).c < INF → (V v).s < INF → (V v).s.toNat < M → RdN w A rs → RowI w eb N (chL V (grE ins rs) 0) →
    Calls Try.prog 34 #[nmv T N st A n c, .slice (some ⟨eb, 0, none⟩) N N, .int .i64 v] w fun r w' => (∃ d, r = .returned (dv d) ∧ Fol V (grE ins rs) v (toDT d) ∧ RdP (fun b => w.heap.size ≤ b) w' d) ∧ Below w.heap.size w w' := by
  have HL := Lib.hid hl
  have HVP := Lib.hid (validN_parts hvd)
  have HES := Lib.hid (grE_ok hvd hp)
  have HSO := Lib.hid hS
  have hn6 : n ≤ 600 := by rw [← hl]; exact HVP.out.2.2.2.2.1
  have hN1000 : N ≤ 1000 := by have := HVP.out.2.2.2.1; omega
  clear hl hvd hp hS
  induction M with
  | zero => intro v w _ _ _ h; omega
  | succ M ih =>
    intro v w hvN hvf hvs hvM hR hRI
    obtain ⟨q, E, hch, hqE, hEh, hev, _⟩ := chosen_fin HES.out HSO.out hvf
    have HED := Lib.hid (edge_nat hqE)
    have hEm := List.mem_of_getElem? hqE
    unfold grE at hqE
    rw [List.getElem?_map] at hqE
    obtain ⟨x, hx, rfl⟩ := Option.map_eq_some_iff.1 hqE
    have hq : q < n := by
      have := (List.getElem?_eq_some_iff.1 hx).1
      rw [HL.out] at this; exact this
    obtain ⟨b, o, rfl, hc⟩ := hR q x hx
    have hO := okN_parts (HVP.out.2.2.2.2.2 x (List.mem_of_getElem? hx))
    have HR := Lib.hid hR
    have HRI := Lib.hid hRI
    have HCH := Lib.hid hch
    have hcc := hRI.cell hvN
    rw [hch] at hcc
    have HIH := Lib.hid (fun (t : Int) (ht : t ∈ tailsN x) => (show 0 ≤ t ∧ t < N ∧ t.toNat < N ∧ ∀ w', RdN w' (some ⟨b, o, none⟩) rs → RowI w' eb N (chL V (grE ins rs) 0) → Calls Try.prog 34 #[nmv T N st (some ⟨b, o, none⟩) n c, .slice (some ⟨eb, 0, none⟩) N N, .int .i64 t] w' fun r w'' => (∃ d, r = .returned (dv d) ∧ Fol V (grE ins rs) t.toNat (toDT d) ∧ RdP (fun b => w'.heap.size ≤ b) w'' d) ∧ Below w'.heap.size w' w'' from by
      have h5 := hO.2.2.2.2.2 t ht
      have hmm : t.toNat ∈ (gE ins x).t := List.mem_map.2 ⟨t, ht, rfl⟩
      have h6 := tails_fin HES.out HSO.out hEm hvf hev hmm
      have h7 := tails_size HES.out HSO.out hEm hvf hvs hev hmm
      have h8 := (HSO.out.ok t.toNat).2.2.1
      refine ⟨h5.1, h5.2, by omega, fun w' hR' hI' => ?_⟩
      have := ih t.toNat w' (by omega) h6 (by omega) (by omega) hR' hI'
      rwa [Int.toNat_of_nonneg h5.1] at this))
    have HTL2 := Lib.hid (tailsN_len x)
    have c0 := hc 0 _ (by decide) rfl
    have c1 := hc 1 _ (by decide) rfl
    have c2 := hc 2 _ (by decide) rfl
    have c3 := hc 3 _ (by decide) rfl
    have c4 := hc 4 _ (by decide) rfl
    have c5 := hc 5 _ (by decide) rfl
    simp only [Nat.add_zero] at c0
    have HKT := Lib.hid (fun w' => rtl_any x w')
    obtain ⟨xt, hxt⟩ : ∃ xt, tailsN x = xt := ⟨_, rfl⟩
    have HGT := Lib.hid (show (gE ins x).t = xt.map Int.toNat from by unfold gE; simp only; rw [hxt])
    rw [hxt] at HIH HTL2 HKT
    obtain ⟨m, hm⟩ : ∃ m, xt.length = m := ⟨_, rfl⟩
    have hm2 : m ≤ 2 := by have := HTL2.out; omega
    have HM := Lib.hid hm
    obtain ⟨kd, h, ra, rb, p, ox⟩ := x
    simp only at c0 c1 c2 c3 c4 c5
    simp only [rv, hm] at HKT
    clear ih hR hRI hx hev hEh hqE hO hc hm hch hvf hvs hvM hxt hEm
    obtain ⟨wb, hwb⟩ : ∃ wb, wb = ((w.alloc (.cells #[.int .i64 T, .int .i64 (N : Int), .int .i64 st, .slice (some ⟨b, o, none⟩) n c] 24)).alloc (.cells #[.int .i64 0, .slice none 0 0] 33)).alloc (.cells #[.int .i64 q, .slice none 0 0] 33) := ⟨_, rfl⟩
    have HF := Lib.hid (show Fut w wb from by rw [hwb]; exact (((Fut.refl w).alloc _).alloc _).alloc _)
    have HSZ := Lib.hid (show wb.heap.size = w.heap.size + 3 from by rw [hwb]; simp only [World.size_alloc])
    have HBN := Lib.hid (show Blk wb w.heap.size 24 #[.int .i64 T, .int .i64 (N : Int), .int .i64 st, .slice (some ⟨b, o, none⟩) n c] from by rw [hwb]; (repeat (first | exact heap_new' _ _ _ (by first | rfl | (simp only [World.size_alloc])) | refine (blk_alloc_lt _ _ _ (by first | omega | (simp only [World.size_alloc]; omega))).trans ?_)))
    have HZ := Lib.hid (show Blk wb (w.heap.size + 1) 33 #[.int .i64 0, .slice none 0 0] from by rw [hwb]; (repeat (first | exact heap_new' _ _ _ (by first | rfl | (simp only [World.size_alloc])) | refine (blk_alloc_lt _ _ _ (by first | omega | (simp only [World.size_alloc]; omega))).trans ?_)))
    have HD := Lib.hid (show Blk wb (w.heap.size + 1 + 1) 33 #[.int .i64 q, .slice none 0 0] from by rw [hwb]; (repeat (first | exact heap_new' _ _ _ (by first | rfl | (simp only [World.size_alloc])) | refine (blk_alloc_lt _ _ _ (by first | omega | (simp only [World.size_alloc]; omega))).trans ?_)))
    have d3 := HBN.out.cell (i := 3) rfl
    have e0 := HF.out.cell c0
    have e1 := HF.out.cell c1
    have e2 := HF.out.cell c2
    have e3 := HF.out.cell c3
    have e4 := HF.out.cell c4
    have e5 := HF.out.cell c5
    rw [hwb] at d3 e0 e1 e2 e3 e4 e5
    clear c0 c1 c2 c3 c4 c5
    go_enter Try.func34, Try.ntmps34
    go_wp2_with fail
    rw [← hwb]
    clear hwb hcc d3 e0 e1 e2 e3 e4 e5
    refine (HKT.out _).mono ?_
    rintro r wt ⟨⟨tA, tk, rfl, htl⟩, hb⟩
    have HFT := Lib.hid (show Fut wb wt from hb)
    have HT := Lib.hid htl.rd
    clear hb htl HKT
    go_wp2_with fail
    go_loopw [9, 10] (fun x i wr => ∃ (j : Nat) (ks : List DI) (XA : Option Addr) (Xc : Nat), j ≤ m ∧ x = .slice XA j Xc ∧ i = .int .i64 j ∧ Hid (ks.length = j) ∧ Hid (∀ (i : Nat) d t, ks[i]? = some d → xt[i]? = some t → Fol V (grE ins rs) t.toNat (toDT d))
      ∧ Hid (wr.ownsRow wt.heap.size 33 2 (.slice XA j Xc) j (ks.flatMap encD)) ∧ Hid (∀ d ∈ ks, RdP (fun b => wt.heap.size ≤ b ∧ (Value.slice XA j Xc).ownBlock ≠ some b) wr d) ∧ Fut wt wr) (fun _ i _ => m - (intOf i).toNat)
    case atStart => exact ⟨0, [], none, 0, Nat.zero_le _, rfl, rfl, Lib.hid rfl, Lib.hid (fun i d t h => by simp at h), Lib.hid (World.ownsRow_nil _ _ _ _), Lib.hid (fun d h => by simp at h), Fut.refl _⟩
    case round =>
      obtain ⟨j, ks, XA, Xc, hj, rfl, rfl, HKL, HFO, HO, HRP, hF⟩ := hrel
      obtain ⟨wx, rfl⟩ : ∃ q, q = wr := ⟨_, rfl⟩
      have HF2 := Lib.hid hF
      have HFW := Lib.hid (HF.out.trans (HFT.out.trans hF))
      have HFB := Lib.hid (HFT.out.trans hF)
      clear hF
      by_cases hlt : j < m
      · obtain ⟨t, hty⟩ := get_lt HM.out hlt
        obtain ⟨b2, o2, rfl, hd⟩ := HT.out j t hty
        have d0 := cell_fut (HF2.out.cell hd)
        have HTY := Lib.hid hty
        obtain ⟨t1, t2, t3, t4⟩ := HIH.out t (List.mem_of_getElem? hty)
        have HC := Lib.hid (fun w' (hf : Fut wx w') => t4 w' (RdS.fut HR.out (HFW.out.trans hf)) ((HRI.out.fut HFW.out).fut hf))
        have q0 := cell_fut ((HBN.out.fut HFB.out).cell (i := 0) rfl)
        have q1 := cell_fut ((HBN.out.fut HFB.out).cell (i := 1) rfl)
        have q2 := cell_fut ((HBN.out.fut HFB.out).cell (i := 2) rfl)
        have q3 := cell_fut ((HBN.out.fut HFB.out).cell (i := 3) rfl)
        clear hty hd t4
        go_wp2_with fail
        refine wp_region_M o_emendateref38_build_7 (by kernel_rfl) (by kernel_rfl) (by intro c a d v w h; cases d <;> exact h) ?_; unfold o_emendateref38_build_7
        iterate 7 (refine wpF_h rfl rfl (fun K hK => ?_); go_simp; refine hK _ _ ?_; clear hK K)
        refine wpF_o rfl rfl (fun K hK => ?_)
        go_simp
        go_at_call 34
        refine (HC.out _ (Fut.refl wx).drew).mono ?_
        rintro r w1 ⟨⟨d, rfl, hfd, hrd⟩, hb⟩
        have f2 : Fut wx w1 := (Fut.refl wx).drew.trans hb
        have HFD := Lib.hid hfd
        have HRD := Lib.hid hrd
        refine hK _ _ (.inr hb) ?_
        have HO1 := Lib.hid (World.ownsRow.alloc (own_fut HO.out f2) (.cells #[.int .i64 d.e, .slice d.A d.k.length d.c] 33))
        have HW1 := Lib.hid f2
        clear hb f2 HC hK K hfd hrd q0 q1 q2 q3 d0
        refine wpF_o rfl rfl (fun K hK => ?_)
        go_simp
        refine hK _ _ (.inr ((Fut.refl _).alloc _)) ?_
        clear hK K
        refine wpF_ol rfl (by kernel_rfl) rfl (fun K hK => ?_)
        refine wp_push 31 33 2 32 _ Try.underlying31 info_pp rfl (by decide) (by decide) (.tmp 29) (.tmp 37) rfl wt.heap.size (.slice XA j Xc) j _ rfl HO1.out w1.heap.size [.int .i64 d.e, .slice d.A d.k.length d.c] rfl (heap_new' _ _ _ rfl) rfl (by simp [Value.oneCell']) (by omega) (Nat.le_trans (HF2.out.trans HW1.out).size (by rw [World.size_alloc]; exact Nat.le_succ _)) ?_
        intro g cap w' h1 h2 h3
        refine hK _ _ ?_
        clear hK K
        have hgo : ∀ k, (Value.slice XA j Xc).ownBlock = some k → wt.heap.size ≤ k ∧ k < wx.heap.size := fun k hk => World.ownsRow.lt HO.out k hk
        have HH1 := Lib.hid h1
        have HH2 := Lib.hid h2
        have HH3 := Lib.hid h3
        have HGO := Lib.hid hgo
        clear h1 h2 h3 hgo
        (refine wpF_h rfl rfl (fun K hK => ?_); go_simp; refine hK _ _ ?_; clear hK K)
        refine wpF_nil ?_
        go_wp2_with fail
        refine ⟨⟨j + 1, ks ++ [d], some ⟨g, 0, none⟩, cap, by omega, rfl, by go_num, Lib.hid (by rw [List.length_append, HKL.out]; rfl), Lib.hid ?_, Lib.hid ?_, Lib.hid ?_, ?_⟩, by simp [intOf]; omega⟩
        · intro i y u hy hu
          by_cases e9 : i < j
          · rw [List.getElem?_append_left (by rw [HKL.out]; omega)] at hy
            exact HFO.out i y u hy hu
          · rw [List.getElem?_append_right (by rw [HKL.out]; omega), HKL.out] at hy
            have e8 : i = j := by
              have := (List.getElem?_eq_some_iff.1 hy).1
              simp at this; omega
            subst e8
            rw [Nat.sub_self] at hy
            obtain rfl : d = y := by simpa using hy
            rw [HTY.out] at hu
            obtain rfl := Option.some.inj hu
            exact HFD.out
        · rw [List.flatMap_append]
          simpa [encD] using HH1.out
        · intro y hy
          have hkeep : ∀ b, b < w1.heap.size → (Value.slice XA j Xc).ownBlock ≠ some b → w'.heap[b]? = w1.heap[b]? := fun b h1 h2 =>
            (HH2.out.block b (by rw [World.size_alloc]; omega) (fun e => h2 e.symm)).trans (((Fut.refl w1).alloc _).block b h1)
          have hgn : ∀ b, b < w1.heap.size → (Value.slice XA j Xc).ownBlock ≠ some b → (Value.slice (some ⟨g, 0, none⟩) (j + 1) cap).ownBlock ≠ some b := fun b h1 h2 e => by
            have h9 : (some g : Option Nat) = some b := e
            obtain rfl := Option.some.inj h9
            rcases HH3.out with h3 | h3
            · exact h2 h3
            · rw [World.size_alloc] at h3; omega
          rcases List.mem_append.1 hy with hy | hy
          · refine (HRP.out y hy).keep (fun b hb hlt => ?_)
            have hs := HW1.out.size
            exact ⟨(hkeep b (by omega) hb.2).trans (HW1.out.block b hlt), hb.1, hgn b (by omega) hb.2⟩
          · obtain rfl : y = d := by simpa using hy
            refine HRD.out.keep (fun b hb hlt => ?_)
            have hb' : wx.heap.size ≤ b := hb
            have hs := HF2.out.size
            have h2 : (Value.slice XA j Xc).ownBlock ≠ some b := fun e => by
              have := (HGO.out b e).2
              omega
            exact ⟨hkeep b hlt h2, by omega, hgn b hlt h2⟩
        · exact (FutS.grownS (S := fun k => decide (wt.heap.size ≤ k)) HH2.out (fun k hk => decide_eq_true (HGO.out k hk).1)).fut ((HF2.out.trans HW1.out).alloc _) (fun k hk => of_decide_eq_true hk)
      · have hjn : j = m := by omega
        obtain rfl := hjn
        have hz := HZ.out.fut HFB.out
        have hd := HD.out.fut HFB.out
        have g4 := hz.cell (i := 0) rfl
        have g5 := hz.cell (i := 1) rfl
        have g2 := hz.fz 0
        have g3 := hz.fz 1
        have k0 := hd.cell (i := 0) rfl
        have k1 := hd.cell (i := 1) rfl
        have k2 := hd.fz 1
        have HZ3 := Lib.hid hz
        have HD3 := Lib.hid (hd.set 1 (.slice XA j Xc))
        have m0 := HD3.out.cell (i := 0) rfl
        have m1 := HD3.out.cell (i := 1) rfl
        have HZ4 := Lib.hid (hz.setOther (a := ⟨w.heap.size + 1 + 1, 1, none⟩) (by simp only; omega) (.slice XA j Xc))
        have n0 := HZ4.out.cell (i := 0) rfl
        have n1 := HZ4.out.cell (i := 1) rfl
        have n2 := HZ4.out.fz 0
        have n3 := HZ4.out.fz 1
        clear hz hd
        go_wp2_with fail
        refine bodyPost_ret (results_cell_row bld_res _ _ (w.heap.size + 1) _ _ _ _ rfl ((HZ4.out.set 0 (.int .i64 q)).set 1 (.slice XA j Xc)) Try.underlying33 rfl (by kernel_rfl)) rfl ?_
        have hkeep : ∀ b, b ≠ w.heap.size + 1 → b ≠ w.heap.size + 1 + 1 → (((wx.setCell ⟨w.heap.size + 1 + 1, 1, none⟩ (.slice XA j Xc)).setCell ⟨w.heap.size + 1, 0, none⟩ (.int .i64 q)).setCell ⟨w.heap.size + 1, 1, none⟩ (.slice XA j Xc)).heap[b]? = wx.heap[b]? := fun b h h' => (blk_setCell_other _ _ _ _ h).trans ((blk_setCell_other _ _ _ _ h).trans (blk_setCell_other _ _ _ _ h'))
        have hKN := HKL.out
        have hsz := HSZ.out
        have hst := HFT.out.size
        refine ⟨⟨.node q XA Xc ks, by simp only [dv, DI.e, DI.A, DI.c, DI.k, hKN]; rfl, ?_, ?_⟩, ((HFW.out.setCell (p := ⟨w.heap.size + 1 + 1, 1, none⟩) (by simp only; omega) _).setCell (p := ⟨w.heap.size + 1, 0, none⟩) (by simp only; omega) _).setCell (p := ⟨w.heap.size + 1, 1, none⟩) (by simp only; omega) _⟩
        · rw [toDT_eq, ← HCH.out]
          refine Fol.mk (by rw [HCH.out]; exact HED.out) (by rw [List.length_map, hKN, HGT.out, List.length_map, HM.out]) (fun i d t hd ht => ?_)
          rw [List.getElem?_map] at hd
          obtain ⟨d', hd', rfl⟩ := Option.map_eq_some_iff.1 hd
          rw [HGT.out, List.getElem?_map] at ht
          obtain ⟨t', ht', rfl⟩ := Option.map_eq_some_iff.1 ht
          exact HFO.out i d' t' hd' ht'
        · have ho := own_keep (w' := ((wx.setCell ⟨w.heap.size + 1 + 1, 1, none⟩ (.slice XA j Xc)).setCell ⟨w.heap.size + 1, 0, none⟩ (.int .i64 q)).setCell ⟨w.heap.size + 1, 1, none⟩ (.slice XA j Xc)) HO.out (fun k hk => hkeep k (by
            have := (World.ownsRow.lt HO.out k hk).1
            omega) (by
            have := (World.ownsRow.lt HO.out k hk).1
            omega))
          refine RdP.mk (RdS.of_own (enc := encD) encD_len (by decide) ho) (by rw [hKN]; unfold maxLen; omega) (fun b o hA hne => ?_) (fun d hd => (HRP.out d hd).keep (fun b hb hlt => ⟨hkeep b (by omega) (by omega), by omega⟩))
          subst hA
          have := World.ownsRow.lt HO.out b rfl
          show w.heap.size ≤ b
          omega
end Go.Proofs.Ytleapckcihcpaaa
