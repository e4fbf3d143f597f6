/-
  The reference's Map, walked.
-/
import Derived.Test.YtoiffhoiklafhaaF13b
import Derived.Test.YtoiffhoiklafhaaD12
namespace Go.Proofs.Ytoiffhoiklafhaa
open Go.RowKit Go.Deep PK
attribute [local go_sem] Oper.lit Oper.litS fut_fut fut_drew World.cell?_alloc_some
attribute [local go_sem] fut_base_drew World.frozen?_setCell
mutual
/-- a tree with other numbers -/
def mapD (l : List Int) : DT → Option DT
  | .node e k => if 0 ≤ e ∧ e < l.length then (mapDs l k).map (fun k' => .node (l.getD e.toNat 0) k') else none
def mapDs (l : List Int) : List DT → Option (List DT)
  | [] => some []
  | d :: k => match mapD l d with
    | none => none
    | some d' => (mapDs l k).map (fun k' => d' :: k')
end
theorem mapDs_none {l : List Int} : ∀ {k : List DT} {i : Nat} {d : DT}, k[i]? = some d → mapD l d = none → mapDs l k = none
  | [], i, d, h, _ => by simp at h
  | a :: k, 0, d, h, hd => by
    simp only [List.getElem?_cons_zero, Option.some.injEq] at h
    subst h
    rw [mapDs, hd]
  | a :: k, i + 1, d, h, hd => by
    rw [List.getElem?_cons_succ] at h
    rw [mapDs, mapDs_none h hd]
    cases mapD l a <;> rfl
theorem mapDs_some {l : List Int} : ∀ {k ks : List DT}, ks.length = k.length → (∀ (i : Nat) d, k[i]? = some d → ∃ d', ks[i]? = some d' ∧ mapD l d = some d') → mapDs l k = some ks
  | [], ks, hl, _ => by
    have : ks = [] := List.eq_nil_of_length_eq_zero (by simpa using hl)
    rw [mapDs, this]
  | a :: k, [], hl, _ => by simp at hl
  | a :: k, b :: ks, hl, h => by
    obtain ⟨d', h1, h2⟩ := h 0 a rfl
    simp only [List.getElem?_cons_zero, Option.some.injEq] at h1
    subst h1
    rw [mapDs, h2, mapDs_some (by simpa using hl) (fun i d hd => h (i + 1) d (by rw [List.getElem?_cons_succ]; exact hd))]
    rfl
theorem len_le_sizDs : ∀ k : List DT, (k.length : Int) ≤ sizDs k
  | [] => by simp [sizDs]
  | d :: k => by
    have h1 := len_le_sizDs k
    have h2 := sizD_pos d
    rw [sizDs, List.length_cons]
    omega
theorem rmap_res : Try.f29.results = #[.cell 4 36, .tmp 5] := by kernel_rfl
set_option maxHeartbeats 12800000 in
set_option maxRecDepth 4000 in
theorem rmap_any (l : List Int) (FA : Option Addr) (n c : Nat) (hl : l.length = n) (hn : n ≤ 1000) (d : DI) : ∀ w, sizD (toDT d) ≤ 1000 → Rd1 w FA (.int .i64 ·) l → RdD w d →
    Calls Try.prog 29 #[dv d, .slice FA n c] w fun q w' => (∃ d' b, q = .returned (.tuple #[dv d', .bool b]) ∧ (b = false → mapD l (toDT d) = none ∧ RdD w' d') ∧ (b = true → mapD l (toDT d) = some (toDT d') ∧ RdP (fun b => w.heap.size ≤ b) w' d')) ∧ Below w.heap.size w w' := by
  have HL := Lib.hid hl
  have hn63 : n ≤ 9223372036854775807 := by omega
  clear hl
  induction d using DI.ind with
  | h e B d k ih =>
    intro w hsz hI hRD
    have hsz2 : sizDs (k.map toDT) ≤ 999 := by rw [toDT_eq, sizD] at hsz; omega
    have hlk := len_le_sizDs (k.map toDT)
    rw [List.length_map] at hlk
    have HSD := Lib.hid (show ∀ y ∈ k, sizD (toDT y) ≤ 1000 from fun y hy => by
      have := sizDs_le (k.map toDT) (toDT y) (List.mem_map.2 ⟨y, hy, rfl⟩)
      omega)
    have HRD0 := Lib.hid hRD
    obtain ⟨hS, hkl, hK⟩ := hRD.parts
    have HI1 := Lib.hid hI
    have HS := Lib.hid hS
    have HK := Lib.hid hK
    have HI := Lib.hid ih
    obtain ⟨m, hm⟩ : ∃ m, k.length = m := ⟨_, rfl⟩
    have hm63 : m ≤ 9223372036854775807 := hm ▸ hkl
    have hm9 : m ≤ 1000 := by omega
    have HM := Lib.hid hm
    simp only [dv, DI.e, DI.A, DI.c, DI.k, hm]
    have HDV := Lib.hid (show dv (.node e B d k) = .agg #[.int .i64 e, .slice B m d] from by rw [← hm]; rfl)
    rw [toDT_eq]
    clear hS hK ih hkl hm hRD hI hsz hsz2 hlk
    by_cases hin : 0 ≤ e ∧ e < (n : Int)
    · obtain ⟨q, rfl⟩ : ∃ q : Nat, e = q := ⟨e.toNat, by omega⟩
      have hq : q < n := by omega
      obtain ⟨x, hx⟩ := get_lt HL.out hq
      obtain ⟨b0, o0, rfl, hc⟩ := HI1.out q x hx
      have HMD := Lib.hid (show mapD l (.node (q : Int) (k.map toDT)) = (mapDs l (k.map toDT)).map (fun k' => .node x k') from by
        rw [mapD, if_pos ⟨hin.1, by rw [HL.out]; exact hin.2⟩, Int.toNat_natCast, List.getD_eq_getElem?_getD, hx]; rfl)
      generalize mapD l (.node (q : Int) (k.map toDT)) = md at *
      have c1 := ((Fut.refl w).alloc (.cells #[.int .i64 q, .slice B m d] 36)).cell hc
      have hqn : ¬ ((q : Int) < 0) := by omega
      clear hin hx hc
      go_enter Try.func29, Try.ntmps29
      go_wp2_with fail
      obtain ⟨wb, hwb⟩ : ∃ wb, wb = ((w.alloc (.cells #[.int .i64 q, .slice B m d] 36)).alloc (.cells #[.int .i64 0, .slice none 0 0] 36)).alloc (.cells #[.int .i64 x, .slice none 0 0] 36) := ⟨_, rfl⟩
      have HF := Lib.hid (show Fut w wb from by rw [hwb]; exact (((Fut.refl w).alloc _).alloc _).alloc _)
      have HSZ := Lib.hid (show wb.heap.size = w.heap.size + 3 from by rw [hwb]; simp only [World.size_alloc])
      have HB := Lib.hid (show Blk wb w.heap.size 36 #[.int .i64 q, .slice B m d] from by rw [hwb]; (repeat (first | exact heap_new' _ _ _ (by first | rfl | (simp only [World.size_alloc])) | refine (blk_alloc_lt _ _ _ (by first | omega | (simp only [World.size_alloc]; omega))).trans ?_)))
      have HZ := Lib.hid (show Blk wb (w.heap.size + 1) 36 #[.int .i64 0, .slice none 0 0] from by rw [hwb]; (repeat (first | exact heap_new' _ _ _ (by first | rfl | (simp only [World.size_alloc])) | refine (blk_alloc_lt _ _ _ (by first | omega | (simp only [World.size_alloc]; omega))).trans ?_)))
      have HO2 := Lib.hid (show Blk wb (w.heap.size + 1 + 1) 36 #[.int .i64 x, .slice none 0 0] from by rw [hwb]; (repeat (first | exact heap_new' _ _ _ (by first | rfl | (simp only [World.size_alloc])) | refine (blk_alloc_lt _ _ _ (by first | omega | (simp only [World.size_alloc]; omega))).trans ?_)))
      rw [← hwb]
      clear hwb c1
      go_loopw [7, 8] (fun y i wr => ∃ (j : Nat) (ks : List DI) (XA : Option Addr) (Xc : Nat), j ≤ m ∧ y = .slice XA j Xc ∧ i = .int .i64 j ∧ Hid (ks.length = j) ∧ Hid (∀ (i : Nat) d, i < j → k[i]? = some d → ∃ d', ks[i]? = some d' ∧ mapD l (toDT d) = some (toDT d'))
        ∧ Hid (wr.ownsRow wb.heap.size 36 2 (.slice XA j Xc) j (ks.flatMap encD)) ∧ Hid (∀ d ∈ ks, RdP (fun b => wb.heap.size ≤ b ∧ (Value.slice XA j Xc).ownBlock ≠ some b) wr d) ∧ Hid (Fut wb wr)) (fun _ i _ => m - (intOf i).toNat)
      case atStart => exact ⟨0, [], none, 0, Nat.zero_le _, rfl, rfl, Lib.hid rfl, Lib.hid (fun i d h => by omega), Lib.hid (World.ownsRow_nil _ _ _ _), Lib.hid (fun d h => by simp at h), Lib.hid (Fut.refl _)⟩
      case round =>
        obtain ⟨j, ks, XA, Xc, hj, rfl, rfl, HKL, HFO, HO, HRP, HFW⟩ := hrel
        have q1 := (HB.out.fut HFW.out).cell (i := 1) rfl
        by_cases hlt : j < m
        · obtain ⟨y, hy⟩ := get_lt HM.out hlt
          obtain ⟨b1, o1, rfl, hd⟩ := HS.out j y hy
          have d0 := HFW.out.cell (HF.out.cell (hd 0 _ (by decide) rfl))
          have d1 := HFW.out.cell (HF.out.cell (hd 1 _ (by decide) rfl))
          simp only [Nat.add_zero] at d0
          have HY := Lib.hid hy
          have HC := Lib.hid (HI.out y (List.mem_of_getElem? hy) wr (HSD.out y (List.mem_of_getElem? hy)) ((HI1.out.fut HF.out).fut HFW.out) (((HK.out y (List.mem_of_getElem? hy)).fut HF.out).fut HFW.out))
          obtain ⟨my, hmy⟩ : ∃ my, mapD l (toDT y) = my := ⟨_, rfl⟩
          have HMY := Lib.hid hmy
          rw [hmy] at HC
          clear hy hd hmy
          obtain ⟨ye, yA, yc, yk⟩ := y
          simp only [DI.e, DI.A, DI.c, DI.k] at d0 d1
          obtain ⟨yn, hyn⟩ : ∃ yn, yk.length = yn := ⟨_, rfl⟩
          simp only [dv, DI.e, DI.A, DI.c, DI.k, hyn] at HC d1
          clear hyn
          go_wp2_with fail
          refine HC.out.mono ?_
          rintro r w1 ⟨⟨dz, bz, rfl, hzf, hzt⟩, hb⟩
          have f1 : Fut wr w1 := hb
          have HZF := Lib.hid hzf
          have HZT := Lib.hid hzt
          clear hb hzf hzt HC d0 d1 q1
          obtain ⟨dq, hdq⟩ : ∃ dq, dq = dz := ⟨_, rfl⟩
          rw [← hdq] at HZF HZT
          have HDQ := Lib.hid hdq
          obtain ⟨ze, zA, zc, zk⟩ := dz
          simp only []
          obtain ⟨zn, hzn⟩ : ∃ zn, zk.length = zn := ⟨_, rfl⟩
          rw [hzn]
          have HEN := Lib.hid (show encD dq = [.int .i64 ze, .slice zA zn zc] from by rw [hdq, ← hzn]; rfl)
          have f2 : Fut wr (w1.alloc (.cells #[.int .i64 ze, .slice zA zn zc] 36)) := f1.alloc _
          have HFZ := Lib.hid (HFW.out.trans f2)
          have HOZ := Lib.hid (own_fut HO.out f2)
          have HF2 := Lib.hid f2
          have HBZ := Lib.hid (show Blk (w1.alloc (.cells #[.int .i64 ze, .slice zA zn zc] 36)) w1.heap.size 36 #[.int .i64 ze, .slice zA zn zc] from heap_new' _ _ _ rfl)
          clear hdq hzn f2
          cases bz with
          | false =>
            have HMN := Lib.hid (show md = none from by
              have h1 := (HZF.out rfl).1
              rw [HMD.out, mapDs_none (i := j) (by rw [List.getElem?_map, HY.out]; rfl) (HMY.out.trans h1)]; rfl)
            have HZ5 := Lib.hid (HZ.out.fut HFZ.out)
            have HBX5 := Lib.hid (HB.out.fut HFZ.out)
            have g4 := HZ5.out.cell (i := 0) rfl
            have g5 := HZ5.out.cell (i := 1) rfl
            have g2 := HZ5.out.fz 0
            have g3 := HZ5.out.fz 1
            have x0 := HBX5.out.cell (i := 0) rfl
            have x1 := HBX5.out.cell (i := 1) rfl
            clear f1 HZF HZT
            go_wp2_with fail
            refine bodyPost_ret (res_cell2 rmap_res _ _ (w.heap.size + 1) _ _ _ _ rfl ((HZ5.out.set 0 (.int .i64 q)).set 1 (.slice (some ⟨b1, o1, none⟩) m d)) Try.underlying36 rfl (by kernel_rfl)) rfl ?_
            have hfz := ((HF.out.trans HFZ.out).setCell (p := ⟨w.heap.size + 1, 0, none⟩) (by simp only; omega) (.int .i64 q)).setCell (p := ⟨w.heap.size + 1, 1, none⟩) (by simp only; omega) (.slice (some ⟨b1, o1, none⟩) m d)
            exact ⟨⟨.node q (some ⟨b1, o1, none⟩) d k, false, by simp only [HM.out]; rfl, fun _ => ⟨HMN.out, HRD0.out.fut hfz⟩, fun h => (by cases h)⟩, hfz⟩
          | true =>
            have HOA := Lib.hid (World.ownsRow.alloc HOZ.out (.cells #[.int .i64 ze, .slice zA zn zc] 36))
            have HFA := Lib.hid (HFZ.out.alloc (.cells #[.int .i64 ze, .slice zA zn zc] 36))
            have HW1 := Lib.hid f1
            have z0 := HBZ.out.cell (i := 0) rfl
            have z1 := HBZ.out.cell (i := 1) rfl
            clear f1
            go_wp2_with (at_builtin; refine wpList_push rfl 34 36 2 32 _ Try.underlying34 info_dd rfl (by decide) (by decide) (.tmp 48) (.tmp 50) rfl wb.heap.size (.slice XA j Xc) j _ rfl HOA.out (w1.heap.size + 1) [.int .i64 ze, .slice zA zn zc] rfl (heap_new' _ _ _ (World.size_alloc _ _).symm) rfl (by simp [Value.oneCell']) (by omega) HFA.out.size ?_; intro g cap w' h1 h2 h3)
            refine ⟨⟨j + 1, ks ++ [dq], some ⟨g, 0, none⟩, cap, by omega, rfl, by go_num, Lib.hid (by rw [List.length_append, HKL.out]; rfl), Lib.hid ?_, Lib.hid ?_, Lib.hid ?_, Lib.hid (Below.grown HFA.out h2 HFA.out.size (fun q hq => (World.ownsRow.lt HOA.out q hq).1))⟩, by simp [intOf]; omega⟩
            · intro i dd hi hdd
              by_cases e9 : i < j
              · obtain ⟨d', p1, p2⟩ := HFO.out i dd e9 hdd
                exact ⟨d', by rw [List.getElem?_append_left (by rw [HKL.out]; omega)]; exact p1, p2⟩
              · obtain rfl : i = j := by omega
                rw [HY.out] at hdd
                obtain rfl := Option.some.inj hdd
                refine ⟨dq, by rw [List.getElem?_append_right (by rw [HKL.out]; omega), HKL.out, Nat.sub_self]; rfl, HMY.out.trans (HZT.out rfl).1⟩
            · rw [List.flatMap_append]
              have h9 : List.flatMap encD [dq] = [.int .i64 ze, .slice zA zn zc] := by rw [List.flatMap_cons, List.flatMap_nil, List.append_nil, HEN.out]
              rw [h9]
              exact h1
            · intro y hy
              have hkeep : ∀ b, b < w1.heap.size → (Value.slice XA j Xc).ownBlock ≠ some b → w'.heap[b]? = w1.heap[b]? := fun b h1 h4 =>
                (h2.block b (by simp only [World.size_alloc]; omega) (fun e => h4 e.symm)).trans ((((Fut.refl w1).alloc _).alloc _).block b h1)
              have hgn : ∀ b, b < w1.heap.size → (Value.slice XA j Xc).ownBlock ≠ some b → (Value.slice (some ⟨g, 0, none⟩) (j + 1) cap).ownBlock ≠ some b := fun b h1 h4 e => by
                have h9 : (some g : Option Nat) = some b := e
                obtain rfl := Option.some.inj h9
                rcases h3 with h3 | h3
                · exact h4 h3
                · simp only [World.size_alloc] at h3; omega
              have hs := HW1.out.size
              rcases List.mem_append.1 hy with hy | hy
              · refine (HRP.out y hy).keep (fun b hb hlt => ?_)
                exact ⟨(hkeep b (by omega) hb.2).trans (HW1.out.block b hlt), hb.1, hgn b (by omega) hb.2⟩
              · obtain rfl : y = dq := by simpa using hy
                refine (HZT.out rfl).2.keep (fun b hb hlt => ?_)
                have hb' : wr.heap.size ≤ b := hb
                have hno : (Value.slice XA j Xc).ownBlock ≠ some b := fun e => by
                  have := (World.ownsRow.lt HO.out b e).2
                  omega
                have := HFW.out.size
                exact ⟨hkeep b hlt hno, by omega, hgn b hlt hno⟩
        · obtain rfl : j = m := by omega
          have HMS := Lib.hid (show md = some (.node x (ks.map toDT)) from by
            rw [HMD.out, mapDs_some (ks := ks.map toDT) (by rw [List.length_map, List.length_map, HKL.out, HM.out]) (fun i d hd => by
              rw [List.getElem?_map] at hd
              cases hk : k[i]? with
              | none => rw [hk] at hd; cases hd
              | some y =>
                rw [hk] at hd
                simp only [Option.map_some, Option.some.injEq] at hd
                obtain ⟨d', p1, p2⟩ := HFO.out i y (by have := (List.getElem?_eq_some_iff.1 hk).1; rw [HM.out] at this; exact this) hk
                exact ⟨toDT d', by rw [List.getElem?_map, p1]; rfl, by rw [← hd]; exact p2⟩)]; rfl)
          have HO3 := HO2.out.fut HFW.out
          have g0 := HO3.cell (i := 0) rfl
          have g1 := HO3.cell (i := 1) rfl
          have gf := HO3.fz 1
          have HZ5 := Lib.hid (HZ.out.fut HFW.out)
          have g4 := HZ5.out.cell (i := 0) rfl
          have g5 := HZ5.out.cell (i := 1) rfl
          have g2 := HZ5.out.fz 0
          have g3 := HZ5.out.fz 1
          have HO4 := Lib.hid (HO3.set 1 (.slice XA j Xc))
          clear HO3
          go_wp2_with fail
          refine bodyPost_ret (res_cell2 rmap_res _ _ (w.heap.size + 1) _ _ _ _ rfl (((HZ5.out.setOther (a := ⟨w.heap.size + 1 + 1, 1, none⟩) (by simp only; omega) (.slice XA j Xc)).set 0 (.int .i64 x)).set 1 (.slice XA j Xc)) Try.underlying36 rfl (by kernel_rfl)) rfl ?_
          have hsz := HSZ.out
          have hfz := (((HF.out.trans HFW.out).setCell (p := ⟨w.heap.size + 1 + 1, 1, none⟩) (by simp only; omega) (.slice XA j Xc)).setCell (p := ⟨w.heap.size + 1, 0, none⟩) (by simp only; omega) (.int .i64 x)).setCell (p := ⟨w.heap.size + 1, 1, none⟩) (by simp only; omega) (.slice XA j Xc)
          have hkp : ∀ b, wb.heap.size ≤ b → (((wr.setCell ⟨w.heap.size + 1 + 1, 1, none⟩ (.slice XA j Xc)).setCell ⟨w.heap.size + 1, 0, none⟩ (.int .i64 x)).setCell ⟨w.heap.size + 1, 1, none⟩ (.slice XA j Xc)).heap[b]? = wr.heap[b]? := fun b hb =>
            (blk_setCell_other _ _ _ _ (by simp only; omega)).trans ((blk_setCell_other _ _ _ _ (by simp only; omega)).trans (blk_setCell_other _ _ _ _ (by simp only; omega)))
          have hown := own_keep (w' := ((wr.setCell ⟨w.heap.size + 1 + 1, 1, none⟩ (.slice XA j Xc)).setCell ⟨w.heap.size + 1, 0, none⟩ (.int .i64 x)).setCell ⟨w.heap.size + 1, 1, none⟩ (.slice XA j Xc)) HO.out (fun g hg => hkp g (World.ownsRow.lt HO.out g hg).1)
          refine ⟨⟨.node x XA Xc ks, true, by simp only [HKL.out]; rfl, fun h => (by cases h), fun _ => ⟨by rw [HMS.out, toDT_eq], ?_⟩⟩, hfz⟩
          refine .mk (RdS.of_own (enc := encD) encD_len (by decide) hown) (by rw [HKL.out]; unfold maxLen; omega) (fun b o h _ => ?_) (fun d hd => (HRP.out d hd).keep (fun b hb _ => ⟨hkp b hb.1, by have := hb.1; omega⟩))
          have := (World.ownsRow.lt HO.out b (by rw [h]; rfl)).1
          omega
    · have HMN := Lib.hid (show mapD l (.node e (k.map toDT)) = none from by rw [mapD, if_neg (by rw [HL.out]; omega)])
      have hout : e < 0 ∨ (0 ≤ e ∧ (n : Int) ≤ e) := by omega
      clear hin
      rcases hout with h1 | ⟨h1, h2⟩
      all_goals
        go_enter Try.func29, Try.ntmps29
        go_wp2_with fail
        obtain ⟨wz, hwz⟩ : ∃ wz, wz = (w.alloc (.cells #[.int .i64 e, .slice B m d] 36)).alloc (.cells #[.int .i64 e, .slice B m d] 36) := ⟨_, rfl⟩
        have HZX := Lib.hid (show Blk wz (w.heap.size + 1) 36 #[.int .i64 e, .slice B m d] from by rw [hwz]; (repeat (first | exact heap_new' _ _ _ (by first | rfl | (simp only [World.size_alloc])) | refine (blk_alloc_lt _ _ _ (by first | omega | (simp only [World.size_alloc]; omega))).trans ?_)))
        have HFX := Lib.hid (show Fut w wz from by rw [hwz]; exact ((Fut.refl w).alloc _).alloc _)
        rw [← hwz]
        refine bodyPost_ret (res_cell2 rmap_res _ _ (w.heap.size + 1) _ _ _ _ rfl HZX.out Try.underlying36 rfl (by kernel_rfl)) rfl ?_
        exact ⟨⟨.node e B d k, false, by simp only [HM.out]; rfl, fun _ => ⟨HMN.out, HRD0.out.fut HFX.out⟩, fun h => (by cases h)⟩, HFX.out⟩
end Go.Proofs.Ytoiffhoiklafhaa
