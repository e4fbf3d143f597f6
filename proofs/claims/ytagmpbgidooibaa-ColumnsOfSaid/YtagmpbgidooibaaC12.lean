/-
  The column of a token, as the reference has it.
-/
import Derived.Test.YtagmpbgidooibaaC11
namespace Go.Proofs.Ytagmpbgidooibaa
open Go.RowKit Go.Deep
attribute [local go_sem] Oper.lit Oper.litS fut_fut fut_drew World.cell?_alloc_some
def fillF (f : Nat → Int) (i : Nat) : Nat → Int := fun k => if k < i then f k else 0
theorem fill_step (f : Nat → Int) (i : Nat) : upd (fillF f i) i (f i) = fillF f (i + 1) := by
  funext k
  unfold upd fillF
  by_cases e : k = i
  · subst e; simp
  · by_cases h : k < i
    · rw [if_neg e, if_pos h, if_pos (by omega)]
    · rw [if_neg e, if_neg h, if_neg (by omega)]
theorem upd_upd (f : Nat → Int) (i : Nat) (x y : Int) : upd (upd f i x) i y = upd f i y := by
  funext k
  unfold upd
  split <;> rfl
theorem rcol_res : Try.f31.results = #[.cell 6 51] := by kernel_rfl
theorem row_made (w : World) (n : Nat) : RowA (w.alloc (.cells (madeCells #[.int .i64 0] n) 3)) w.heap.size n (fun _ => 0) :=
  ⟨n, _, Nat.le_refl _, World.rowIs_made w _ n _, fun i _ => rfl⟩
set_option maxHeartbeats 6400000 in
set_option maxRecDepth 4000 in
theorem rcolumn_any (kd : Int) (X : Option Addr) (xn xc : Nat) (xs : List (Int × Int)) (A1 : Option Addr) (n1 c1 : Nat) (A2 : Option Addr) (c2 : Nat) (A3 : Option Addr) (c3 : Nat) (s u : Int) (del : List Int) (rep : List RR) (w : World)
    (hk1 : -1 ≤ kd) (hk2 : kd < n1) (hn : n1 ≤ 1000) (h2 : del.length = n1) (h3 : rep.length = n1) (hrows : ∀ r ∈ rep, r.l.length = n1 ∧ ∀ x ∈ r.l, -1 ≤ x) (hx : ∀ p ∈ xs, 0 ≤ p.1 ∧ p.1 < n1 ∧ 1 ≤ p.2) (hxl : xs.length = xn) (hxn : xn ≤ maxLen) (hX : RdS w X 2 encP xs) (r2 : Rd1 w A2 (.int .i64 ·) del) (r3 : RdR w A3 rep) :
    Calls Try.prog 31 #[.int .i64 kd, .slice X xn xc, pv A1 n1 c1 A2 n1 c2 A3 n1 c3 s u] w fun e w' => (∃ A c, e = .returned (.agg #[.int .i64 kd, .slice A n1 c, .int .i64 (delF kd del u)]) ∧ Rd1 w' A (.int .i64 ·) ((List.range n1).map (rowF kd rep xs)) ∧ ∀ b o q, A = some ⟨b, o, q⟩ → w.heap.size ≤ b ∧ b < w'.heap.size) ∧ Below w.heap.size w w' := by
  have k1 : n1 ≤ 9223372036854775807 := by omega
  have k3 : xn ≤ 9223372036854775807 := hxn
  have HW := Lib.hid ((Fut.refl w).alloc (.cells #[.slice A1 n1 c1, .slice A2 n1 c2, .slice A3 n1 c3, .int .i64 s, .int .i64 u] 34))
  have L2 := Lib.hid h2
  have L3 := Lib.hid h3
  have R2 := Lib.hid r2
  have R3 := Lib.hid r3
  have HXS := Lib.hid hX
  have HXL := Lib.hid hxl
  have HXC := Lib.hid hx
  have HRW := Lib.hid hrows
  clear r2 r3 hX h2 h3 hxl hxn hx hrows
  obtain ⟨i1, ki, kz0, kz1, kz2⟩ := info_parts info_int
  by_cases hk : 0 ≤ kd
  · obtain ⟨kn, rfl⟩ : ∃ q : Nat, kd = q := Int.eq_ofNat_of_zero_le hk
    have hkn : kn < n1 := by omega
    obtain ⟨y, hy⟩ := get_lt L2.out hkn
    obtain ⟨rr, hr⟩ := get_lt L3.out hkn
    obtain ⟨t2, o2, rfl, e2⟩ := R2.out kn y hy
    obtain ⟨t3, o3, rfl, e3⟩ := R3.out.1 kn rr hr
    obtain ⟨rd, rl⟩ := R3.out.2 rr (List.mem_of_getElem? hr)
    obtain ⟨hrl, hrm⟩ := HRW.out rr (List.mem_of_getElem? hr)
    have e4 := e3 0 _ (by decide) rfl
    simp only [Nat.mul_one, Nat.add_zero] at e4
    rw [hrl] at e4
    have HDL := Lib.hid (show delF (kn : Int) del u = y from by simp [delF, gi_get hy])
    have HR0 := Lib.hid (show r0 (kn : Int) rep = gi rr.l from by funext k; simp [r0, gr_get hr])
    have HLOW := Lib.hid (show ∀ k, k < n1 → -1 ≤ r0 (kn : Int) rep k from fun k hk => by
      rw [HR0.out]
      obtain ⟨z, hz⟩ := get_lt hrl hk
      rw [gi_get hz]
      exact hrm z (List.mem_of_getElem? hz))
    have HRL := Lib.hid hrl
    have HRD := Lib.hid rd
    clear e3 rl hrl hrm rd hy hr
    have q0' : (((w.alloc (.cells #[.slice A1 n1 c1, .slice (some ⟨t2, o2, none⟩) n1 c2, .slice (some ⟨t3, o3, none⟩) n1 c3, .int .i64 s, .int .i64 u] 34)).alloc (.cells #[.int .i64 0, .slice none 0 0, .int .i64 0] 51)).alloc (.cells #[.int .i64 (kn : Int), .slice none 0 0, .int .i64 u] 51)).cell? ⟨w.heap.size, 0, none⟩ = some (.slice A1 n1 c1) := by (repeat (first | exact (cell_al_new _ _ _ _ _ _ (by first | rfl | (simp only [World.size_alloc]))).trans rfl | refine (cell_al_old _ _ _ (by first | omega | (simp only [World.size_alloc]; omega))).trans ?_))
    have q1' : (((w.alloc (.cells #[.slice A1 n1 c1, .slice (some ⟨t2, o2, none⟩) n1 c2, .slice (some ⟨t3, o3, none⟩) n1 c3, .int .i64 s, .int .i64 u] 34)).alloc (.cells #[.int .i64 0, .slice none 0 0, .int .i64 0] 51)).alloc (.cells #[.int .i64 (kn : Int), .slice none 0 0, .int .i64 u] 51)).cell? ⟨w.heap.size, 1, none⟩ = some (.slice (some ⟨t2, o2, none⟩) n1 c2) := by (repeat (first | exact (cell_al_new _ _ _ _ _ _ (by first | rfl | (simp only [World.size_alloc]))).trans rfl | refine (cell_al_old _ _ _ (by first | omega | (simp only [World.size_alloc]; omega))).trans ?_))
    have q2' : (((w.alloc (.cells #[.slice A1 n1 c1, .slice (some ⟨t2, o2, none⟩) n1 c2, .slice (some ⟨t3, o3, none⟩) n1 c3, .int .i64 s, .int .i64 u] 34)).alloc (.cells #[.int .i64 0, .slice none 0 0, .int .i64 0] 51)).alloc (.cells #[.int .i64 (kn : Int), .slice none 0 0, .int .i64 u] 51)).cell? ⟨w.heap.size, 2, none⟩ = some (.slice (some ⟨t3, o3, none⟩) n1 c3) := by (repeat (first | exact (cell_al_new _ _ _ _ _ _ (by first | rfl | (simp only [World.size_alloc]))).trans rfl | refine (cell_al_old _ _ _ (by first | omega | (simp only [World.size_alloc]; omega))).trans ?_))
    have HZ := Lib.hid (show Cel (((w.alloc (.cells #[.slice A1 n1 c1, .slice (some ⟨t2, o2, none⟩) n1 c2, .slice (some ⟨t3, o3, none⟩) n1 c3, .int .i64 s, .int .i64 u] 34)).alloc (.cells #[.int .i64 0, .slice none 0 0, .int .i64 0] 51)).alloc (.cells #[.int .i64 (kn : Int), .slice none 0 0, .int .i64 u] 51)) (w.heap.size + 1) (.int .i64 0) (.slice none 0 0) (.int .i64 0) from by
      refine (blk_alloc_lt _ _ _ (by simp)).trans ?_
      exact heap_new' _ _ _ (by simp))
    have HC := Lib.hid (show Cel (((w.alloc (.cells #[.slice A1 n1 c1, .slice (some ⟨t2, o2, none⟩) n1 c2, .slice (some ⟨t3, o3, none⟩) n1 c3, .int .i64 s, .int .i64 u] 34)).alloc (.cells #[.int .i64 0, .slice none 0 0, .int .i64 0] 51)).alloc (.cells #[.int .i64 (kn : Int), .slice none 0 0, .int .i64 u] 51)) (w.heap.size + 1 + 1) (.int .i64 (kn : Int)) (.slice none 0 0) (.int .i64 u) from by
      exact heap_new' _ _ _ (by simp))
    have HWW := Lib.hid (show Fut w (((w.alloc (.cells #[.slice A1 n1 c1, .slice (some ⟨t2, o2, none⟩) n1 c2, .slice (some ⟨t3, o3, none⟩) n1 c3, .int .i64 s, .int .i64 u] 34)).alloc (.cells #[.int .i64 0, .slice none 0 0, .int .i64 0] 51)).alloc (.cells #[.int .i64 (kn : Int), .slice none 0 0, .int .i64 u] 51)) from (HW.out.alloc _).alloc _)
    go_enter Try.func31, Try.ntmps31
    go_wp2_with (refine wpList_make_row _ rfl (.tmp 18) (.tmp 18) 23 rfl 3 i1 (.int .i64 0) Try.underlying23 ki kz0 kz1 rfl .i64 .i64 n1 rfl rfl (by rw [kz2]; omega) (by omega) ?_)
    have HFM := Lib.hid ((Fut.refl (((w.alloc (.cells #[.slice A1 n1 c1, .slice (some ⟨t2, o2, none⟩) n1 c2, .slice (some ⟨t3, o3, none⟩) n1 c3, .int .i64 s, .int .i64 u] 34)).alloc (.cells #[.int .i64 0, .slice none 0 0, .int .i64 0] 51)).alloc (.cells #[.int .i64 (kn : Int), .slice none 0 0, .int .i64 u] 51))).alloc (.cells (madeCells #[.int .i64 0] n1) 3))
    have HROW0 := Lib.hid (row_made (((w.alloc (.cells #[.slice A1 n1 c1, .slice (some ⟨t2, o2, none⟩) n1 c2, .slice (some ⟨t3, o3, none⟩) n1 c3, .int .i64 s, .int .i64 u] 34)).alloc (.cells #[.int .i64 0, .slice none 0 0, .int .i64 0] 51)).alloc (.cells #[.int .i64 (kn : Int), .slice none 0 0, .int .i64 u] 51)) n1)
    have HG := Lib.hid (show w.heap.size + 1 + 1 < w.heap.size + 1 + 1 + 1 by omega)
    rw [show (((w.alloc (.cells #[.slice A1 n1 c1, .slice (some ⟨t2, o2, none⟩) n1 c2, .slice (some ⟨t3, o3, none⟩) n1 c3, .int .i64 s, .int .i64 u] 34)).alloc (.cells #[.int .i64 0, .slice none 0 0, .int .i64 0] 51)).alloc (.cells #[.int .i64 (kn : Int), .slice none 0 0, .int .i64 u] 51)).heap.size = w.heap.size + 1 + 1 + 1 by simp] at HROW0
    have HC1 := Lib.hid (HC.out.fut HFM.out)
    have HZ1 := Lib.hid (HZ.out.fut HFM.out)
    have HF1 := Lib.hid (HWW.out.trans HFM.out)
    have p1 := HFM.out.cell q1'
    have p2 := HFM.out.cell q2'
    clear HFM q0' q1' q2' HC HZ HWW
    generalize (((w.alloc (.cells #[.slice A1 n1 c1, .slice (some ⟨t2, o2, none⟩) n1 c2, .slice (some ⟨t3, o3, none⟩) n1 c3, .int .i64 s, .int .i64 u] 34)).alloc (.cells #[.int .i64 0, .slice none 0 0, .int .i64 0] 51)).alloc (.cells #[.int .i64 (kn : Int), .slice none 0 0, .int .i64 u] 51)).alloc (.cells (madeCells #[.int .i64 0] n1) 3) = wm at *
    generalize hgd : w.heap.size + 1 + 1 + 1 = g at *
    have hgl : w.heap.size + 1 + 1 < g := by omega
    clear hgd
    go_loopw [9] (fun i wr => ∃ j : Nat, j ≤ n1 ∧ i = .int .i64 j ∧ Hid (RowA wr g n1 (fillF (r0 (kn : Int) rep) j)) ∧ Hid (Cel wr (w.heap.size + 1 + 1) (.int .i64 (kn : Int)) (.slice none 0 0) (.int .i64 u)) ∧ Hid (Cel wr (w.heap.size + 1) (.int .i64 0) (.slice none 0 0) (.int .i64 0)) ∧ Hid (wr.cell? ⟨w.heap.size, 1, none⟩ = some (.slice (some ⟨t2, o2, none⟩) n1 c2)) ∧ Hid (wr.cell? ⟨w.heap.size, 2, none⟩ = some (.slice (some ⟨t3, o3, none⟩) n1 c3)) ∧ Hid (Fut w wr)) (fun i _ => n1 - (intOf i).toNat)
    case atStart => exact ⟨0, Nat.zero_le _, rfl, Lib.hid (HROW0.out.congr (fun i _ => rfl)), HC1, HZ1, Lib.hid p1, Lib.hid p2, HF1⟩
    case round =>
      obtain ⟨j, hj, rfl, hrow, hcy, hzy, hp1, hp2, hF⟩ := hrel
      obtain ⟨wx, rfl⟩ : ∃ q, q = wr := ⟨_, rfl⟩
      clear HROW0 HC1 HZ1 HF1 p1 p2
      by_cases hlt : j < n1
      · have fz := hrow.out.frozen j
        have hcl := hrow.out.cell hlt
        have wb1 : ∀ x : Int, (wx.setCell ⟨g, j, none⟩ (.int .i64 x)).frozen? ⟨g, j, none⟩ = false := fun x => (hrow.out.set j x).frozen j
        have wb2 : ∀ x : Int, (wx.setCell ⟨g, j, none⟩ (.int .i64 x)).cell? ⟨g, j, none⟩ = some (.int .i64 x) := fun x => by rw [(hrow.out.set j x).cell hlt, upd_same]
        obtain ⟨z, hz⟩ := get_lt HRL.out hlt
        obtain ⟨t5, o5, hrA, e5⟩ := HRD.out j z hz
        have HZZ := Lib.hid (show r0 (kn : Int) rep j = z from by rw [HR0.out]; exact gi_get hz)
        have n4 := World.block_lt_of_cell? w _ e4
        have n5 := World.block_lt_of_cell? w _ e5
        simp only at n4 n5
        have s2 : (wx.setCell ⟨g, j, none⟩ (.int .i64 (-1))).cell? ⟨w.heap.size, 2, none⟩ = some (.slice (some ⟨t3, o3, none⟩) n1 c3) := by
          rw [World.cell?_of_block (blk_setCell_other _ _ _ _ (by simp only; omega))]; exact hp2.out
        have s3 : (wx.setCell ⟨g, j, none⟩ (.int .i64 (-1))).cell? ⟨t3, o3 + kn, none⟩ = some (.slice (some ⟨t5, o5, none⟩) n1 rr.k) := by
          rw [← hrA, World.cell?_of_block (blk_setCell_other _ _ _ _ (by simp only; omega))]; exact hF.out.cell e4
        have s4 : (wx.setCell ⟨g, j, none⟩ (.int .i64 (-1))).cell? ⟨t5, o5 + j, none⟩ = some (.int .i64 z) := by
          rw [World.cell?_of_block (blk_setCell_other _ _ _ _ (by simp only; omega))]; exact hF.out.cell e5
        have ss : (wx.setCell ⟨g, j, none⟩ (.int .i64 (-1))).setCell ⟨g, j, none⟩ (.int .i64 z) = (wx.setCell ⟨g, j, none⟩ (.int .i64 (-1))).setCell ⟨g, j, none⟩ (.int .i64 z) := rfl
        have HNR := Lib.hid (show RowA ((wx.setCell ⟨g, j, none⟩ (.int .i64 (-1))).setCell ⟨g, j, none⟩ (.int .i64 z)) g n1 (fillF (r0 (kn : Int) rep) (j + 1)) from by
          have h := (hrow.out.set j (-1)).set j z
          rw [upd_upd, ← HZZ.out, fill_step] at h
          rw [← HZZ.out]
          exact h)
        have HNC := Lib.hid ((hcy.out.setOther (a := ⟨g, j, none⟩) (by simp only; omega) (.int .i64 (-1))).setOther (a := ⟨g, j, none⟩) (by simp only; omega) (.int .i64 z))
        have HNZ := Lib.hid ((hzy.out.setOther (a := ⟨g, j, none⟩) (by simp only; omega) (.int .i64 (-1))).setOther (a := ⟨g, j, none⟩) (by simp only; omega) (.int .i64 z))
        have HNF := Lib.hid (show Fut w ((wx.setCell ⟨g, j, none⟩ (.int .i64 (-1))).setCell ⟨g, j, none⟩ (.int .i64 z)) from (hF.out.setCell (by simp only; omega) _).setCell (by simp only; omega) _)
        have HN1 := Lib.hid (show ((wx.setCell ⟨g, j, none⟩ (.int .i64 (-1))).setCell ⟨g, j, none⟩ (.int .i64 z)).cell? ⟨w.heap.size, 1, none⟩ = some (.slice (some ⟨t2, o2, none⟩) n1 c2) from by
          rw [World.cell?_of_block (blk_setCell_other _ _ _ _ (by simp only; omega)), World.cell?_of_block (blk_setCell_other _ _ _ _ (by simp only; omega))]; exact hp1.out)
        have HN2 := Lib.hid (show ((wx.setCell ⟨g, j, none⟩ (.int .i64 (-1))).setCell ⟨g, j, none⟩ (.int .i64 z)).cell? ⟨w.heap.size, 2, none⟩ = some (.slice (some ⟨t3, o3, none⟩) n1 c3) from by
          rw [World.cell?_of_block (blk_setCell_other _ _ _ _ (by simp only; omega)), World.cell?_of_block (blk_setCell_other _ _ _ _ (by simp only; omega))]; exact hp2.out)
        have wc1 := wb1 (-1)
        have wc2 := wb2 (-1)
        clear hz e5 hrA wb1 wb2 ss
        go_wp2_with fail
        exact ⟨⟨j + 1, by omega, by go_num, HNR, HNC, HNZ, HN1, HN2, HNF⟩, by simp [intOf]; omega⟩
      · have hjn : j = n1 := by omega
        have HROW := Lib.hid (hrow.out.congr (f' := r0 (kn : Int) rep) (fun i hi => if_pos (by omega)))
        have y0 := hcy.out.c0
        have y1 := hcy.out.c1
        have y2 := hcy.out.c2
        have y3 := hcy.out.fz 2
        have x1 := hp1.out
        have x2 := hF.out.cell e2
        have HCY := Lib.hid (hcy.out.set2 (.int .i64 y))
        have HZY := Lib.hid (hzy.out.setOther (a := ⟨w.heap.size + 1 + 1, 2, none⟩) (by simp only; omega) (.int .i64 y))
        have HFY := Lib.hid (show Fut w (wx.setCell ⟨w.heap.size + 1 + 1, 2, none⟩ (.int .i64 y)) from hF.out.setCell (by simp only; omega) _)
        replace HROW := Lib.hid (HROW.out.setOther (a := ⟨w.heap.size + 1 + 1, 2, none⟩) (by simp only; omega) (.int .i64 y))
        clear hjn
        go_wp2_with fail
        clear x1 x2 y0 y1 y2 y3 hcy hzy hF hp1 hp2 hrow
        generalize wx.setCell ⟨w.heap.size + 1 + 1, 2, none⟩ (.int .i64 y) = wy at *
        go_loopw [10] (fun i wr => ∃ (j : Nat) (f : Nat → Int), j ≤ xn ∧ i = .int .i64 j ∧ Hid (f = (xs.take j).foldl stF (r0 (kn : Int) rep)) ∧ Hid (∀ k, k < n1 → -1 ≤ f k) ∧ Hid (RowA wr g n1 f) ∧ Hid (Cel wr (w.heap.size + 1 + 1) (.int .i64 (kn : Int)) (.slice none 0 0) (.int .i64 y)) ∧ Hid (Cel wr (w.heap.size + 1) (.int .i64 0) (.slice none 0 0) (.int .i64 0)) ∧ Hid (Fut w wr)) (fun i _ => xn - (intOf i).toNat)
        case atStart => exact ⟨0, r0 (kn : Int) rep, Nat.zero_le _, rfl, Lib.hid rfl, HLOW, HROW, HCY, HZY, HFY⟩
        case round =>
          obtain ⟨j, f, hj, rfl, hf, hlow, hrow, hcy, hzy, hF⟩ := hrel
          obtain ⟨wx, rfl⟩ : ∃ q, q = wr := ⟨_, rfl⟩
          clear HROW HCY HZY HFY HLOW
          by_cases hlt : j < xn
          · obtain ⟨⟨p1, p2⟩, hp⟩ := get_lt HXL.out hlt
            obtain ⟨b5, o5, rfl, e5⟩ := HXS.out j _ hp
            obtain ⟨hp1, hp2, hp3⟩ := HXC.out _ (List.mem_of_getElem? hp)
            simp only at hp1 hp2 hp3
            obtain ⟨pk, rfl⟩ : ∃ q : Nat, p1 = q := Int.eq_ofNat_of_zero_le hp1
            have hpk : pk < n1 := by omega
            have v0 := hF.out.cell (e5 0 _ (by decide) rfl)
            have v1 := hF.out.cell (e5 1 _ (by decide) rfl)
            simp only [Nat.add_zero] at v0
            have HST := Lib.hid (fold_step stF (r0 (kn : Int) rep) xs j _ hp)
            have n5 := World.block_lt_of_cell? w _ (e5 0 _ (by decide) rfl)
            simp only at n5
            clear hp e5 hp1 hp2
            have hfl := hlow.out pk hpk
            have vg := hrow.out.cell hpk
            have vf := hrow.out.frozen pk
            have v0' := cell_fut v0
            have v1' := cell_fut v1
            have vfd : wx.drew.frozen? ⟨g, pk, none⟩ = false := vf
            have vgd : wx.drew.cell? ⟨g, pk, none⟩ = some (.int .i64 (f pk)) := vg
            by_cases hch : f pk = -1 ∨ (¬ f pk = -1 ∧ p2 < f pk)
            · have hS := Lib.hid (show stF f ((pk : Int), p2) = upd f pk p2 from by
                unfold stF
                exact if_pos (hch.elim Or.inl (fun h => Or.inr h.2)))
              have HA := Lib.hid (show Hid (upd f pk p2 = (xs.take (j + 1)).foldl stF (r0 (kn : Int) rep)) ∧ Hid (∀ k, k < n1 → -1 ≤ upd f pk p2 k) ∧ Hid (RowA (wx.drew.setCell ⟨g, pk, none⟩ (.int .i64 p2)) g n1 (upd f pk p2)) ∧ Hid (Cel (wx.drew.setCell ⟨g, pk, none⟩ (.int .i64 p2)) (w.heap.size + 1 + 1) (.int .i64 (kn : Int)) (.slice none 0 0) (.int .i64 y)) ∧ Hid (Cel (wx.drew.setCell ⟨g, pk, none⟩ (.int .i64 p2)) (w.heap.size + 1) (.int .i64 0) (.slice none 0 0) (.int .i64 0)) ∧ Hid (Fut w (wx.drew.setCell ⟨g, pk, none⟩ (.int .i64 p2))) from
                ⟨Lib.hid (by rw [HST.out, ← hf.out, hS.out]), Lib.hid (by rw [← hS.out]; exact stF_low hlow.out hp3), Lib.hid (hrow.out.drew.set pk p2), Lib.hid ((show Cel wx.drew _ _ _ _ from hcy.out).setOther (by simp only; omega) _), Lib.hid ((show Cel wx.drew _ _ _ _ from hzy.out).setOther (by simp only; omega) _), Lib.hid (hF.out.drew.setCell (by simp only; omega) _)⟩)
              rcases hch with hm | ⟨hm, hlt2⟩
              · obtain ⟨hm1, hm2, hm3⟩ := cmpF_yes hm
                clear hm
                go_wp2_with fail
                refine wp_region_M o_emendateref35_column_16 (by kernel_rfl) (by kernel_rfl) (by intro c a d v w h; cases d <;> exact h) ?_; unfold o_emendateref35_column_16
                iterate 12 (refine wpF_h rfl rfl (fun K hK => ?_); go_simp; refine hK _ _ ?_; clear hK K)
                refine wpF_o rfl rfl (fun K hK => ?_)
                go_simp
                refine hK _ _ (.inl (by kernel_rfl)) ?_
                clear hK K
                refine wpF_nil ?_
                go_wp2_with fail
                exact ⟨⟨j + 1, upd f pk p2, by omega, by go_num, HA.out⟩, by simp [intOf]; omega⟩
              · obtain ⟨hm1, hm2, hm3⟩ := cmpF_no hm
                clear hm
                go_wp2_with fail
                refine wp_region_M o_emendateref35_column_16 (by kernel_rfl) (by kernel_rfl) (by intro c a d v w h; cases d <;> exact h) ?_; unfold o_emendateref35_column_16
                iterate 12 (refine wpF_h rfl rfl (fun K hK => ?_); go_simp; refine hK _ _ ?_; clear hK K)
                refine wpF_o rfl rfl (fun K hK => ?_)
                go_simp
                refine hK _ _ (.inl (by kernel_rfl)) ?_
                clear hK K
                refine wpF_nil ?_
                go_wp2_with fail
                exact ⟨⟨j + 1, upd f pk p2, by omega, by go_num, HA.out⟩, by simp [intOf]; omega⟩
            · have hS := Lib.hid (show stF f ((pk : Int), p2) = f from by
                unfold stF
                rw [if_neg]
                simp only [Int.toNat_natCast]
                omega)
              have hm : ¬ f pk = -1 := fun h => hch (.inl h)
              have hlt2 : ¬ p2 < f pk := fun h => hch (.inr ⟨hm, h⟩)
              obtain ⟨hm1, hm2, hm3⟩ := cmpF_no hm
              clear hm hch
              go_wp2_with fail
              exact ⟨⟨j + 1, f, by omega, by go_num, Lib.hid (by rw [HST.out, ← hf.out, hS.out]), hlow, hrow, hcy, hzy, hF⟩, by simp [intOf]; omega⟩
          · have HE := Lib.hid (hf.out.trans (fold_all stF (r0 (kn : Int) rep) xs j (by have := HXL.out; omega)))
            have HCS := Lib.hid (hcy.out.set1 (.slice (some ⟨g, 0, none⟩) n1 n1))
            have HZS := Lib.hid (hzy.out.setOther (a := ⟨w.heap.size + 1 + 1, 1, none⟩) (by simp only; omega) (.slice (some ⟨g, 0, none⟩) n1 n1))
            have HFS := Lib.hid (show Fut w (wx.setCell ⟨w.heap.size + 1 + 1, 1, none⟩ (.slice (some ⟨g, 0, none⟩) n1 n1)) from hF.out.setCell (by simp only; omega) _)
            have HRS := Lib.hid (hrow.out.setOther (a := ⟨w.heap.size + 1 + 1, 1, none⟩) (by simp only; omega) (.slice (some ⟨g, 0, none⟩) n1 n1))
            have y1 := hcy.out.c1
            have y3 := hcy.out.fz 1
            have y4 := HCS.out.c0
            have y5 := HCS.out.c1
            have y6 := HCS.out.c2
            have z0 := HZS.out.c0
            have z1 := HZS.out.c1
            have z2 := HZS.out.c2
            have z3 := HZS.out.fz 0
            have z4 := HZS.out.fz 1
            have z5 := HZS.out.fz 2
            go_wp2_with fail
            clear y1 y3 y4 y5 y6 z0 z1 z2 z3 z4 z5
            generalize wx.setCell ⟨w.heap.size + 1 + 1, 1, none⟩ (.slice (some ⟨g, 0, none⟩) n1 n1) = ws at *
            have HCZ := Lib.hid (((HZS.out.set0 (.int .i64 (kn : Int))).set1 (.slice (some ⟨g, 0, none⟩) n1 n1)).set2 (.int .i64 y))
            have HFZ := Lib.hid (show Fut w (((ws.setCell ⟨w.heap.size + 1, 0, none⟩ (.int .i64 (kn : Int))).setCell ⟨w.heap.size + 1, 1, none⟩ (.slice (some ⟨g, 0, none⟩) n1 n1)).setCell ⟨w.heap.size + 1, 2, none⟩ (.int .i64 y)) from ((HFS.out.setCell (by simp only; omega) _).setCell (by simp only; omega) _).setCell (by simp only; omega) _)
            have HRZ := Lib.hid (((HRS.out.setOther (a := ⟨w.heap.size + 1, 0, none⟩) (by simp only; omega) (.int .i64 (kn : Int))).setOther (a := ⟨w.heap.size + 1, 1, none⟩) (by simp only; omega) (.slice (some ⟨g, 0, none⟩) n1 n1)).setOther (a := ⟨w.heap.size + 1, 2, none⟩) (by simp only; omega) (.int .i64 y))
            generalize ((ws.setCell ⟨w.heap.size + 1, 0, none⟩ (.int .i64 (kn : Int))).setCell ⟨w.heap.size + 1, 1, none⟩ (.slice (some ⟨g, 0, none⟩) n1 n1)).setCell ⟨w.heap.size + 1, 2, none⟩ (.int .i64 y) = wz at *
            refine bodyPost_ret (results_cell_row rcol_res _ _ (w.heap.size + 1) _ _ _ _ rfl HCZ.out Try.underlying51 rfl (by kernel_rfl)) rfl ?_
            refine ⟨⟨some ⟨g, 0, none⟩, n1, by rw [HDL.out], ?_, ?_⟩, HFZ.out⟩
            · have h1 := HRZ.out.rd
              rw [HE.out] at h1
              exact h1
            · intro b o q e
              injection e with e
              injection e with e1 _ _
              subst e1
              exact ⟨by omega, HRZ.out.lt⟩
  · obtain rfl : kd = -1 := by omega
    have HDL := Lib.hid (show delF (-1) del u = u from rfl)
    have HR0 := Lib.hid (show r0 (-1) rep = fun _ => -1 from rfl)
    have HLOW := Lib.hid (show ∀ k, k < n1 → -1 ≤ r0 (-1) rep k from fun k hk => Int.le_refl _)
    have q0' : (((w.alloc (.cells #[.slice A1 n1 c1, .slice A2 n1 c2, .slice A3 n1 c3, .int .i64 s, .int .i64 u] 34)).alloc (.cells #[.int .i64 0, .slice none 0 0, .int .i64 0] 51)).alloc (.cells #[.int .i64 (-1), .slice none 0 0, .int .i64 u] 51)).cell? ⟨w.heap.size, 0, none⟩ = some (.slice A1 n1 c1) := by (repeat (first | exact (cell_al_new _ _ _ _ _ _ (by first | rfl | (simp only [World.size_alloc]))).trans rfl | refine (cell_al_old _ _ _ (by first | omega | (simp only [World.size_alloc]; omega))).trans ?_))
    have q1' : (((w.alloc (.cells #[.slice A1 n1 c1, .slice A2 n1 c2, .slice A3 n1 c3, .int .i64 s, .int .i64 u] 34)).alloc (.cells #[.int .i64 0, .slice none 0 0, .int .i64 0] 51)).alloc (.cells #[.int .i64 (-1), .slice none 0 0, .int .i64 u] 51)).cell? ⟨w.heap.size, 1, none⟩ = some (.slice A2 n1 c2) := by (repeat (first | exact (cell_al_new _ _ _ _ _ _ (by first | rfl | (simp only [World.size_alloc]))).trans rfl | refine (cell_al_old _ _ _ (by first | omega | (simp only [World.size_alloc]; omega))).trans ?_))
    have q2' : (((w.alloc (.cells #[.slice A1 n1 c1, .slice A2 n1 c2, .slice A3 n1 c3, .int .i64 s, .int .i64 u] 34)).alloc (.cells #[.int .i64 0, .slice none 0 0, .int .i64 0] 51)).alloc (.cells #[.int .i64 (-1), .slice none 0 0, .int .i64 u] 51)).cell? ⟨w.heap.size, 2, none⟩ = some (.slice A3 n1 c3) := by (repeat (first | exact (cell_al_new _ _ _ _ _ _ (by first | rfl | (simp only [World.size_alloc]))).trans rfl | refine (cell_al_old _ _ _ (by first | omega | (simp only [World.size_alloc]; omega))).trans ?_))
    have HZ := Lib.hid (show Cel (((w.alloc (.cells #[.slice A1 n1 c1, .slice A2 n1 c2, .slice A3 n1 c3, .int .i64 s, .int .i64 u] 34)).alloc (.cells #[.int .i64 0, .slice none 0 0, .int .i64 0] 51)).alloc (.cells #[.int .i64 (-1), .slice none 0 0, .int .i64 u] 51)) (w.heap.size + 1) (.int .i64 0) (.slice none 0 0) (.int .i64 0) from by
      refine (blk_alloc_lt _ _ _ (by simp)).trans ?_
      exact heap_new' _ _ _ (by simp))
    have HC := Lib.hid (show Cel (((w.alloc (.cells #[.slice A1 n1 c1, .slice A2 n1 c2, .slice A3 n1 c3, .int .i64 s, .int .i64 u] 34)).alloc (.cells #[.int .i64 0, .slice none 0 0, .int .i64 0] 51)).alloc (.cells #[.int .i64 (-1), .slice none 0 0, .int .i64 u] 51)) (w.heap.size + 1 + 1) (.int .i64 (-1)) (.slice none 0 0) (.int .i64 u) from by
      exact heap_new' _ _ _ (by simp))
    have HWW := Lib.hid (show Fut w (((w.alloc (.cells #[.slice A1 n1 c1, .slice A2 n1 c2, .slice A3 n1 c3, .int .i64 s, .int .i64 u] 34)).alloc (.cells #[.int .i64 0, .slice none 0 0, .int .i64 0] 51)).alloc (.cells #[.int .i64 (-1), .slice none 0 0, .int .i64 u] 51)) from (HW.out.alloc _).alloc _)
    go_enter Try.func31, Try.ntmps31
    go_wp2_with (refine wpList_make_row _ rfl (.tmp 18) (.tmp 18) 23 rfl 3 i1 (.int .i64 0) Try.underlying23 ki kz0 kz1 rfl .i64 .i64 n1 rfl rfl (by rw [kz2]; omega) (by omega) ?_)
    have HFM := Lib.hid ((Fut.refl (((w.alloc (.cells #[.slice A1 n1 c1, .slice A2 n1 c2, .slice A3 n1 c3, .int .i64 s, .int .i64 u] 34)).alloc (.cells #[.int .i64 0, .slice none 0 0, .int .i64 0] 51)).alloc (.cells #[.int .i64 (-1), .slice none 0 0, .int .i64 u] 51))).alloc (.cells (madeCells #[.int .i64 0] n1) 3))
    have HROW0 := Lib.hid (row_made (((w.alloc (.cells #[.slice A1 n1 c1, .slice A2 n1 c2, .slice A3 n1 c3, .int .i64 s, .int .i64 u] 34)).alloc (.cells #[.int .i64 0, .slice none 0 0, .int .i64 0] 51)).alloc (.cells #[.int .i64 (-1), .slice none 0 0, .int .i64 u] 51)) n1)
    have HG := Lib.hid (show w.heap.size + 1 + 1 < w.heap.size + 1 + 1 + 1 by omega)
    rw [show (((w.alloc (.cells #[.slice A1 n1 c1, .slice A2 n1 c2, .slice A3 n1 c3, .int .i64 s, .int .i64 u] 34)).alloc (.cells #[.int .i64 0, .slice none 0 0, .int .i64 0] 51)).alloc (.cells #[.int .i64 (-1), .slice none 0 0, .int .i64 u] 51)).heap.size = w.heap.size + 1 + 1 + 1 by simp] at HROW0
    have HC1 := Lib.hid (HC.out.fut HFM.out)
    have HZ1 := Lib.hid (HZ.out.fut HFM.out)
    have HF1 := Lib.hid (HWW.out.trans HFM.out)
    have p1 := HFM.out.cell q1'
    have p2 := HFM.out.cell q2'
    clear HFM q0' q1' q2' HC HZ HWW
    generalize (((w.alloc (.cells #[.slice A1 n1 c1, .slice A2 n1 c2, .slice A3 n1 c3, .int .i64 s, .int .i64 u] 34)).alloc (.cells #[.int .i64 0, .slice none 0 0, .int .i64 0] 51)).alloc (.cells #[.int .i64 (-1), .slice none 0 0, .int .i64 u] 51)).alloc (.cells (madeCells #[.int .i64 0] n1) 3) = wm at *
    generalize hgd : w.heap.size + 1 + 1 + 1 = g at *
    have hgl : w.heap.size + 1 + 1 < g := by omega
    clear hgd
    go_loopw [9] (fun i wr => ∃ j : Nat, j ≤ n1 ∧ i = .int .i64 j ∧ Hid (RowA wr g n1 (fillF (r0 (-1) rep) j)) ∧ Hid (Cel wr (w.heap.size + 1 + 1) (.int .i64 (-1)) (.slice none 0 0) (.int .i64 u)) ∧ Hid (Cel wr (w.heap.size + 1) (.int .i64 0) (.slice none 0 0) (.int .i64 0)) ∧ Hid (wr.cell? ⟨w.heap.size, 1, none⟩ = some (.slice A2 n1 c2)) ∧ Hid (wr.cell? ⟨w.heap.size, 2, none⟩ = some (.slice A3 n1 c3)) ∧ Hid (Fut w wr)) (fun i _ => n1 - (intOf i).toNat)
    case atStart => exact ⟨0, Nat.zero_le _, rfl, Lib.hid (HROW0.out.congr (fun i _ => rfl)), HC1, HZ1, Lib.hid p1, Lib.hid p2, HF1⟩
    case round =>
      obtain ⟨j, hj, rfl, hrow, hcy, hzy, hp1, hp2, hF⟩ := hrel
      obtain ⟨wx, rfl⟩ : ∃ q, q = wr := ⟨_, rfl⟩
      clear HROW0 HC1 HZ1 HF1 p1 p2
      by_cases hlt : j < n1
      · have fz := hrow.out.frozen j
        have hcl := hrow.out.cell hlt
        have wb1 : ∀ x : Int, (wx.setCell ⟨g, j, none⟩ (.int .i64 x)).frozen? ⟨g, j, none⟩ = false := fun x => (hrow.out.set j x).frozen j
        have wb2 : ∀ x : Int, (wx.setCell ⟨g, j, none⟩ (.int .i64 x)).cell? ⟨g, j, none⟩ = some (.int .i64 x) := fun x => by rw [(hrow.out.set j x).cell hlt, upd_same]
        have HNR := Lib.hid (show RowA (wx.setCell ⟨g, j, none⟩ (.int .i64 (-1))) g n1 (fillF (r0 (-1) rep) (j + 1)) from by
          have h := hrow.out.set j (-1)
          have e := fill_step (r0 (-1) rep) j
          rw [show r0 (-1) rep j = -1 from rfl] at e
          rw [e] at h
          exact h)
        have HNC := Lib.hid (hcy.out.setOther (a := ⟨g, j, none⟩) (by simp only; omega) (.int .i64 (-1)))
        have HNZ := Lib.hid (hzy.out.setOther (a := ⟨g, j, none⟩) (by simp only; omega) (.int .i64 (-1)))
        have HNF := Lib.hid (show Fut w (wx.setCell ⟨g, j, none⟩ (.int .i64 (-1))) from hF.out.setCell (by simp only; omega) _)
        have HN1 := Lib.hid (show (wx.setCell ⟨g, j, none⟩ (.int .i64 (-1))).cell? ⟨w.heap.size, 1, none⟩ = some (.slice A2 n1 c2) from by
          rw [World.cell?_of_block (blk_setCell_other _ _ _ _ (by simp only; omega))]; exact hp1.out)
        have HN2 := Lib.hid (show (wx.setCell ⟨g, j, none⟩ (.int .i64 (-1))).cell? ⟨w.heap.size, 2, none⟩ = some (.slice A3 n1 c3) from by
          rw [World.cell?_of_block (blk_setCell_other _ _ _ _ (by simp only; omega))]; exact hp2.out)
        clear wb1 wb2
        go_wp2_with fail
        exact ⟨⟨j + 1, by omega, by go_num, HNR, HNC, HNZ, HN1, HN2, HNF⟩, by simp [intOf]; omega⟩
      · have hjn : j = n1 := by omega
        have HROW := Lib.hid (hrow.out.congr (f' := r0 (-1) rep) (fun i hi => if_pos (by omega)))
        have y0 := hcy.out.c0
        have y1 := hcy.out.c1
        have y2 := hcy.out.c2
        have y3 := hcy.out.fz 2
        have x1 := hp1.out
        have HCY := Lib.hid hcy.out
        have HZY := Lib.hid hzy.out
        have HFY := Lib.hid hF.out
        clear hjn
        go_wp2_with fail
        clear x1 y0 y1 y2 y3 hcy hzy hF hp1 hp2 hrow
        obtain ⟨wy, rfl⟩ : ∃ q, q = wx := ⟨_, rfl⟩
        go_loopw [10] (fun i wr => ∃ (j : Nat) (f : Nat → Int), j ≤ xn ∧ i = .int .i64 j ∧ Hid (f = (xs.take j).foldl stF (r0 (-1) rep)) ∧ Hid (∀ k, k < n1 → -1 ≤ f k) ∧ Hid (RowA wr g n1 f) ∧ Hid (Cel wr (w.heap.size + 1 + 1) (.int .i64 (-1)) (.slice none 0 0) (.int .i64 u)) ∧ Hid (Cel wr (w.heap.size + 1) (.int .i64 0) (.slice none 0 0) (.int .i64 0)) ∧ Hid (Fut w wr)) (fun i _ => xn - (intOf i).toNat)
        case atStart => exact ⟨0, r0 (-1) rep, Nat.zero_le _, rfl, Lib.hid rfl, HLOW, HROW, HCY, HZY, HFY⟩
        case round =>
          obtain ⟨j, f, hj, rfl, hf, hlow, hrow, hcy, hzy, hF⟩ := hrel
          obtain ⟨wx, rfl⟩ : ∃ q, q = wr := ⟨_, rfl⟩
          clear HROW HCY HZY HFY HLOW
          by_cases hlt : j < xn
          · obtain ⟨⟨p1, p2⟩, hp⟩ := get_lt HXL.out hlt
            obtain ⟨b5, o5, rfl, e5⟩ := HXS.out j _ hp
            obtain ⟨hp1, hp2, hp3⟩ := HXC.out _ (List.mem_of_getElem? hp)
            simp only at hp1 hp2 hp3
            obtain ⟨pk, rfl⟩ : ∃ q : Nat, p1 = q := Int.eq_ofNat_of_zero_le hp1
            have hpk : pk < n1 := by omega
            have v0 := hF.out.cell (e5 0 _ (by decide) rfl)
            have v1 := hF.out.cell (e5 1 _ (by decide) rfl)
            simp only [Nat.add_zero] at v0
            have HST := Lib.hid (fold_step stF (r0 (-1) rep) xs j _ hp)
            have n5 := World.block_lt_of_cell? w _ (e5 0 _ (by decide) rfl)
            simp only at n5
            clear hp e5 hp1 hp2
            have hfl := hlow.out pk hpk
            have vg := hrow.out.cell hpk
            have vf := hrow.out.frozen pk
            have v0' := cell_fut v0
            have v1' := cell_fut v1
            have vfd : wx.drew.frozen? ⟨g, pk, none⟩ = false := vf
            have vgd : wx.drew.cell? ⟨g, pk, none⟩ = some (.int .i64 (f pk)) := vg
            by_cases hch : f pk = -1 ∨ (¬ f pk = -1 ∧ p2 < f pk)
            · have hS := Lib.hid (show stF f ((pk : Int), p2) = upd f pk p2 from by
                unfold stF
                exact if_pos (hch.elim Or.inl (fun h => Or.inr h.2)))
              have HA := Lib.hid (show Hid (upd f pk p2 = (xs.take (j + 1)).foldl stF (r0 (-1) rep)) ∧ Hid (∀ k, k < n1 → -1 ≤ upd f pk p2 k) ∧ Hid (RowA (wx.drew.setCell ⟨g, pk, none⟩ (.int .i64 p2)) g n1 (upd f pk p2)) ∧ Hid (Cel (wx.drew.setCell ⟨g, pk, none⟩ (.int .i64 p2)) (w.heap.size + 1 + 1) (.int .i64 (-1)) (.slice none 0 0) (.int .i64 u)) ∧ Hid (Cel (wx.drew.setCell ⟨g, pk, none⟩ (.int .i64 p2)) (w.heap.size + 1) (.int .i64 0) (.slice none 0 0) (.int .i64 0)) ∧ Hid (Fut w (wx.drew.setCell ⟨g, pk, none⟩ (.int .i64 p2))) from
                ⟨Lib.hid (by rw [HST.out, ← hf.out, hS.out]), Lib.hid (by rw [← hS.out]; exact stF_low hlow.out hp3), Lib.hid (hrow.out.drew.set pk p2), Lib.hid ((show Cel wx.drew _ _ _ _ from hcy.out).setOther (by simp only; omega) _), Lib.hid ((show Cel wx.drew _ _ _ _ from hzy.out).setOther (by simp only; omega) _), Lib.hid (hF.out.drew.setCell (by simp only; omega) _)⟩)
              rcases hch with hm | ⟨hm, hlt2⟩
              · obtain ⟨hm1, hm2, hm3⟩ := cmpF_yes hm
                clear hm
                go_wp2_with fail
                refine wp_region_M o_emendateref35_column_16 (by kernel_rfl) (by kernel_rfl) (by intro c a d v w h; cases d <;> exact h) ?_; unfold o_emendateref35_column_16
                iterate 12 (refine wpF_h rfl rfl (fun K hK => ?_); go_simp; refine hK _ _ ?_; clear hK K)
                refine wpF_o rfl rfl (fun K hK => ?_)
                go_simp
                refine hK _ _ (.inl (by kernel_rfl)) ?_
                clear hK K
                refine wpF_nil ?_
                go_wp2_with fail
                exact ⟨⟨j + 1, upd f pk p2, by omega, by go_num, HA.out⟩, by simp [intOf]; omega⟩
              · obtain ⟨hm1, hm2, hm3⟩ := cmpF_no hm
                clear hm
                go_wp2_with fail
                refine wp_region_M o_emendateref35_column_16 (by kernel_rfl) (by kernel_rfl) (by intro c a d v w h; cases d <;> exact h) ?_; unfold o_emendateref35_column_16
                iterate 12 (refine wpF_h rfl rfl (fun K hK => ?_); go_simp; refine hK _ _ ?_; clear hK K)
                refine wpF_o rfl rfl (fun K hK => ?_)
                go_simp
                refine hK _ _ (.inl (by kernel_rfl)) ?_
                clear hK K
                refine wpF_nil ?_
                go_wp2_with fail
                exact ⟨⟨j + 1, upd f pk p2, by omega, by go_num, HA.out⟩, by simp [intOf]; omega⟩
            · have hS := Lib.hid (show stF f ((pk : Int), p2) = f from by
                unfold stF
                rw [if_neg]
                simp only [Int.toNat_natCast]
                omega)
              have hm : ¬ f pk = -1 := fun h => hch (.inl h)
              have hlt2 : ¬ p2 < f pk := fun h => hch (.inr ⟨hm, h⟩)
              obtain ⟨hm1, hm2, hm3⟩ := cmpF_no hm
              clear hm hch
              go_wp2_with fail
              exact ⟨⟨j + 1, f, by omega, by go_num, Lib.hid (by rw [HST.out, ← hf.out, hS.out]), hlow, hrow, hcy, hzy, hF⟩, by simp [intOf]; omega⟩
          · have HE := Lib.hid (hf.out.trans (fold_all stF (r0 (-1) rep) xs j (by have := HXL.out; omega)))
            have HCS := Lib.hid (hcy.out.set1 (.slice (some ⟨g, 0, none⟩) n1 n1))
            have HZS := Lib.hid (hzy.out.setOther (a := ⟨w.heap.size + 1 + 1, 1, none⟩) (by simp only; omega) (.slice (some ⟨g, 0, none⟩) n1 n1))
            have HFS := Lib.hid (show Fut w (wx.setCell ⟨w.heap.size + 1 + 1, 1, none⟩ (.slice (some ⟨g, 0, none⟩) n1 n1)) from hF.out.setCell (by simp only; omega) _)
            have HRS := Lib.hid (hrow.out.setOther (a := ⟨w.heap.size + 1 + 1, 1, none⟩) (by simp only; omega) (.slice (some ⟨g, 0, none⟩) n1 n1))
            have y1 := hcy.out.c1
            have y3 := hcy.out.fz 1
            have y4 := HCS.out.c0
            have y5 := HCS.out.c1
            have y6 := HCS.out.c2
            have z0 := HZS.out.c0
            have z1 := HZS.out.c1
            have z2 := HZS.out.c2
            have z3 := HZS.out.fz 0
            have z4 := HZS.out.fz 1
            have z5 := HZS.out.fz 2
            go_wp2_with fail
            clear y1 y3 y4 y5 y6 z0 z1 z2 z3 z4 z5
            generalize wx.setCell ⟨w.heap.size + 1 + 1, 1, none⟩ (.slice (some ⟨g, 0, none⟩) n1 n1) = ws at *
            have HCZ := Lib.hid (((HZS.out.set0 (.int .i64 (-1))).set1 (.slice (some ⟨g, 0, none⟩) n1 n1)).set2 (.int .i64 u))
            have HFZ := Lib.hid (show Fut w (((ws.setCell ⟨w.heap.size + 1, 0, none⟩ (.int .i64 (-1))).setCell ⟨w.heap.size + 1, 1, none⟩ (.slice (some ⟨g, 0, none⟩) n1 n1)).setCell ⟨w.heap.size + 1, 2, none⟩ (.int .i64 u)) from ((HFS.out.setCell (by simp only; omega) _).setCell (by simp only; omega) _).setCell (by simp only; omega) _)
            have HRZ := Lib.hid (((HRS.out.setOther (a := ⟨w.heap.size + 1, 0, none⟩) (by simp only; omega) (.int .i64 (-1))).setOther (a := ⟨w.heap.size + 1, 1, none⟩) (by simp only; omega) (.slice (some ⟨g, 0, none⟩) n1 n1)).setOther (a := ⟨w.heap.size + 1, 2, none⟩) (by simp only; omega) (.int .i64 u))
            generalize ((ws.setCell ⟨w.heap.size + 1, 0, none⟩ (.int .i64 (-1))).setCell ⟨w.heap.size + 1, 1, none⟩ (.slice (some ⟨g, 0, none⟩) n1 n1)).setCell ⟨w.heap.size + 1, 2, none⟩ (.int .i64 u) = wz at *
            refine bodyPost_ret (results_cell_row rcol_res _ _ (w.heap.size + 1) _ _ _ _ rfl HCZ.out Try.underlying51 rfl (by kernel_rfl)) rfl ?_
            refine ⟨⟨some ⟨g, 0, none⟩, n1, by rw [HDL.out], ?_, ?_⟩, HFZ.out⟩
            · have h1 := HRZ.out.rd
              rw [HE.out] at h1
              exact h1
            · intro b o q e
              injection e with e
              injection e with e1 _ _
              subst e1
              exact ⟨by omega, HRZ.out.lt⟩
end Go.Proofs.Ytagmpbgidooibaa
