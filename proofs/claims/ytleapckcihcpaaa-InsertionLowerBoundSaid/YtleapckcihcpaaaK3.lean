/-
  Rows of values; the value that a hyperedge offers (the solver's combine).
-/
import Derived.Test.YtleapckcihcpaaaK2
import Derived.Deep.OwnRows
namespace Go.Proofs.Ytleapckcihcpaaa
open Go.RowKit Go.Deep PK
attribute [local go_sem] Oper.lit Oper.litS fut_fut fut_drew World.cell?_alloc_some
attribute [local go_sem] World.frozen?_setCell
theorem info_vv : (Try.prog.info? 40).map (fun i => (i.zero, i.size, i.bytes)) = some (some (.agg #[.int .i64 0, .int .i64 0]), 2, 16) := by kernel_rfl
theorem info_int : (Try.prog.info? 3).map (fun i => (i.zero, i.size, i.bytes)) = some (some (.int .i64 0), 1, 8) := by kernel_rfl
theorem info_bool : (Try.prog.info? 4).map (fun i => (i.zero, i.size, i.bytes)) = some (some (.bool false), 1, 1) := by kernel_rfl
theorem info_sl : (Try.prog.info? 25).map (fun i => (i.zero, i.size, i.bytes)) = some (some (.slice none 0 0), 1, 24) := by kernel_rfl
/-- a row of values, cell by cell -/
def cellV (V : Nat → VV) (k : Nat) : Value := if k % 2 = 0 then .int .i64 (V (k / 2)).c else .int .i64 (V (k / 2)).s
abbrev RowV (w : World) (b n : Nat) (V : Nat → VV) : Prop := w.rowIs b 40 (n * 2) (cellV V)
section
variable {w w' : World} {b n : Nat} {V : Nat → VV}
theorem RowV.c (h : RowV w b n V) {i : Nat} (hi : i < n) : w.cell? ⟨b, i * 2, none⟩ = some (.int .i64 (V i).c) := by
  have := h.cell (i := i * 2) (by omega)
  rw [this]
  unfold cellV
  rw [if_pos (by omega), show i * 2 / 2 = i by omega]
theorem RowV.s (h : RowV w b n V) {i : Nat} (hi : i < n) : w.cell? ⟨b, i * 2 + 1, none⟩ = some (.int .i64 (V i).s) := by
  have := h.cell (i := i * 2 + 1) (by omega)
  rw [this]
  unfold cellV
  rw [if_neg (by omega), show (i * 2 + 1) / 2 = i by omega]
theorem RowV.set (h : RowV w b n V) (i : Nat) (x : VV) : RowV ((w.setCell ⟨b, i * 2, none⟩ (.int .i64 x.c)).setCell ⟨b, i * 2 + 1, none⟩ (.int .i64 x.s)) b n (upd V i x) := by
  refine ((World.rowIs.set h (i * 2) (.int .i64 x.c)).set (i * 2 + 1) (.int .i64 x.s)).congr (fun k hk => ?_)
  by_cases e1 : k = i * 2 + 1
  · subst e1
    rw [if_pos rfl]
    unfold cellV
    rw [if_neg (by omega), show (i * 2 + 1) / 2 = i by omega, upd_same]
  · rw [if_neg e1]
    by_cases e2 : k = i * 2
    · subst e2
      rw [if_pos rfl]
      unfold cellV
      rw [if_pos (by omega), show i * 2 / 2 = i by omega, upd_same]
    · rw [if_neg e2]
      unfold cellV
      rw [upd_other _ _ _ _ (show k / 2 ≠ i by omega)]
theorem RowV.fut (h : RowV w b n V) (hf : Fut w w') : RowV w' b n V := h.of_block (hf.block b h.lt)
theorem RowV.congr' {W : Nat → VV} (h : RowV w b n V) (e : ∀ i, i < n → V i = W i) : RowV w b n W :=
  World.rowIs.congr h (fun k hk => by unfold cellV; rw [e (k / 2) (by omega)])
theorem RowV.rd (h : RowV w b n V) : RdS w (some ⟨b, 0, none⟩) 2 encV ((List.range n).map V) := by
  intro i a hi
  rw [List.getElem?_map] at hi
  obtain ⟨k, hk, rfl⟩ := Option.map_eq_some_iff.1 hi
  have hlt := (List.getElem?_eq_some_iff.1 hk).1
  rw [List.length_range] at hlt
  rw [List.getElem?_range hlt] at hk
  obtain rfl := Option.some.inj hk
  refine ⟨b, 0, rfl, fun j u hj hu => ?_⟩
  match j, hj with
  | 0, _ =>
    simp only [encV, List.getElem?_cons_zero, Option.some.injEq] at hu
    subst hu
    have := h.c hlt
    simpa using this
  | 1, _ =>
    simp only [encV, List.getElem?_cons_succ, List.getElem?_cons_zero, Option.some.injEq] at hu
    subst hu
    have := h.s hlt
    simpa using this
end
/-- make of values -/
theorem run_make_vv (n : Nat) (hn : n ≤ 1000000000000) (w : World) : (Instr.makeSlice 29 (.int .i64 (n : Int)) (.int .i64 (n : Int))).run Try.prog w = .ok (.slice (some ⟨w.heap.size, 0, none⟩) n n) (w.alloc (.cells (madeCells #[.int .i64 0, .int .i64 0] (n * 2)) 40)) := by
  obtain ⟨i, hi, hzz⟩ := Option.map_eq_some_iff.1 info_vv
  simp only [Prod.mk.injEq] at hzz
  obtain ⟨hz, hs, hb⟩ := hzz
  have hr := run_make (P := Try.prog) w 29 40 i _ Try.underlying29 hi hz .i64 .i64 n n (by omega) (Int.le_refl _) (by rw [hb]; omega) (by omega)
  simp only [Int.toNat_natCast, hs] at hr
  exact hr
theorem rowV_made (w : World) (n : Nat) : RowV (w.alloc (.cells (madeCells #[.int .i64 0, .int .i64 0] (n * 2)) 40)) w.heap.size n (fun _ => ⟨0, 0⟩) := by
  refine ⟨_, blk_alloc_new _ _, size_madeCells _ _, fun k hk => ?_⟩
  unfold cellV
  have h2 : k % 2 = 0 ∨ k % 2 = 1 := by omega
  rcases h2 with h2 | h2 <;> simp [madeCells, hk, h2]
theorem scomb_res : Try.f45.results = #[.cell 4 40] := by kernel_rfl
set_option maxHeartbeats 3200000 in
theorem scomb_any (sb vb N : Nat) (V : Nat → VV) (e : EI) (w : World) (hs : w.cell? ⟨sb, 2, none⟩ = some (.slice (some ⟨vb, 0, none⟩) N N)) (hv : RowV w vb N V) (_hN : N ≤ 1048576) (hV : ∀ v, okV (V v)) (hc : 0 ≤ e.c ∧ e.c ≤ INF)
    (ht : ∀ t ∈ e.t, 0 ≤ t ∧ t < (N : Int)) (hl : e.t.length ≤ 1000000) (hR : Rd1 w e.A (.int .i64 ·) e.t) :
    Calls Try.prog 45 #[.pointer (some ⟨sb, 0, none⟩), .agg #[.int .i64 e.h, .slice e.A e.t.length e.k, .int .i64 e.c, .int .i64 e.l0, .int .i64 e.l1]] w fun r w' => r = .returned (vv (ev V (toEE e))) ∧ Below w.heap.size w w' := by
  obtain ⟨xh, xt, xc, xl0, xl1, xA, xk⟩ := e
  simp only at hc ht hl hR ⊢
  obtain ⟨n, hn⟩ : ∃ n, n = xt.length := ⟨_, rfl⟩
  rw [← hn] at hl ⊢
  have HR := Lib.hid hR
  have HT := Lib.hid ht
  have HVk := Lib.hid hV
  have HC := Lib.hid hc
  have HN := Lib.hid hn
  have hn63 : n ≤ 9223372036854775807 := by omega
  have hmk := run_make_vv n (by omega)
  have HW := Lib.hid (show Fut w ((w.alloc (.cells #[.int .i64 xh, .slice xA n xk, .int .i64 xc, .int .i64 xl0, .int .i64 xl1] 59)).alloc (.cells #[.int .i64 0, .int .i64 0] 40)) from ((Fut.refl w).alloc _).alloc _)
  clear hR ht hV hc hn
  go_enter Try.func45, Try.ntmps45
  go_wp2_with fail
  obtain ⟨wb, hwb⟩ : ∃ wb, wb = (((w.alloc (.cells #[.int .i64 xh, .slice xA n xk, .int .i64 xc, .int .i64 xl0, .int .i64 xl1] 59)).alloc (.cells #[.int .i64 0, .int .i64 0] 40)).alloc (.cells (madeCells #[.int .i64 0, .int .i64 0] (n * 2)) 40)) := ⟨_, rfl⟩
  have HF := Lib.hid (show Fut w wb from by rw [hwb]; exact HW.out.alloc _)
  have HZ := Lib.hid (show Blk wb (w.heap.size + 1) 40 #[.int .i64 0, .int .i64 0] from by rw [hwb]; exact Blk.alloc (heap_new' _ _ _ (by simp only [World.size_alloc])) _)
  have HE := Lib.hid (show wb.cell? ⟨w.heap.size, 2, none⟩ = some (.int .i64 xc) from by rw [hwb]; (repeat (first | exact (cell_al_new _ _ _ _ _ _ (by first | rfl | (simp only [World.size_alloc]))).trans rfl | refine (cell_al_old _ _ _ (by first | omega | (simp only [World.size_alloc]; omega))).trans ?_)))
  have HL := Lib.hid (show RowV wb (w.heap.size + 1 + 1) n (fun _ => ⟨0, 0⟩) from by
    rw [hwb]
    have := rowV_made ((w.alloc (.cells #[.int .i64 xh, .slice xA n xk, .int .i64 xc, .int .i64 xl0, .int .i64 xl1] 59)).alloc (.cells #[.int .i64 0, .int .i64 0] 40)) n
    simp only [World.size_alloc] at this ⊢
    exact this)
  rw [← hwb]
  clear hwb hmk
  have HS := Lib.hid hs
  have HV := Lib.hid hv
  clear hs hv
  go_loopw [15] (fun i wr => ∃ j : Nat, j ≤ n ∧ i = .int .i64 j ∧ Hid (RowV wr (w.heap.size + 1 + 1) n (fun k => if k < j then V (xt.getD k 0).toNat else ⟨0, 0⟩) ∧ Blk wr (w.heap.size + 1) 40 #[.int .i64 0, .int .i64 0] ∧ wr.cell? ⟨w.heap.size, 2, none⟩ = some (.int .i64 xc) ∧ Fut w wr)) (fun i _ => n - (intOf i).toNat)
  case atStart => exact ⟨0, Nat.zero_le _, rfl, Lib.hid ⟨HL.out, HZ.out, HE.out, HF.out⟩⟩
  case round =>
    obtain ⟨j, hj, rfl, HI⟩ := hrel
    obtain ⟨hrow, hz, he, hF⟩ := HI.out
    clear HI
    by_cases hlt : j < n
    · obtain ⟨x, hx⟩ := get_lt HN.out.symm hlt
      have hxr := HT.out x (List.mem_of_getElem? hx)
      obtain ⟨t, rfl⟩ : ∃ t : Nat, x = t := ⟨x.toNat, by omega⟩
      have htN : t < N := by omega
      obtain ⟨b, o, rfl, hc'⟩ := HR.out j _ hx
      have g0 := hF.cell hc'
      have g1 := hF.cell HS.out
      have g2 := (HV.out.fut hF).c htN
      have g3 := (HV.out.fut hF).s htN
      have g4 := hrow.c hlt
      have g5 := hrow.s hlt
      have g6 := World.rowIs.frozen hrow (j * 2)
      have g7 := World.rowIs.frozen hrow (j * 2 + 1)
      have HX := Lib.hid hx
      have HRW := Lib.hid hrow
      have HZ2 := Lib.hid hz
      have HE2 := Lib.hid he
      have HF2 := Lib.hid hF
      clear hx hc' hrow hz he hF hxr
      go_wp2_with fail
      refine ⟨⟨j + 1, by omega, by go_num, Lib.hid ⟨?_, ?_, ?_, ?_⟩⟩, by simp [intOf]; omega⟩
      · refine (HRW.out.set j (V t)).congr' (fun k hk => ?_)
        by_cases e1 : k = j
        · subst e1
          rw [upd_same, if_pos (by omega), List.getD_eq_getElem?_getD, HX.out]; rfl
        · rw [upd_other _ _ _ _ e1]
          by_cases e2 : k < j
          · rw [if_pos e2, if_pos (by omega)]
          · rw [if_neg e2, if_neg (by omega)]
      · exact (HZ2.out.setOther (a := ⟨w.heap.size + 1 + 1, j * 2, none⟩) (by simp only; omega) _).setOther (a := ⟨w.heap.size + 1 + 1, j * 2 + 1, none⟩) (by simp only; omega) _
      · exact (World.cell?_setCell_far _ ⟨w.heap.size + 1 + 1, j * 2 + 1, none⟩ _ _ (by simp only; omega)).trans ((World.cell?_setCell_far _ ⟨w.heap.size + 1 + 1, j * 2, none⟩ _ _ (by simp only; omega)).trans HE2.out)
      · exact (HF2.out.setCell (p := ⟨w.heap.size + 1 + 1, j * 2, none⟩) (by simp only; omega) _).setCell (p := ⟨w.heap.size + 1 + 1, j * 2 + 1, none⟩) (by simp only; omega) _
    · have hjn : j = n := by omega
      have hls : (List.range n).map (fun k => if k < j then V (xt.getD k 0).toNat else (⟨0, 0⟩ : VV)) = (xt.map Int.toNat).map V := by
        apply List.ext_getElem?
        intro k
        rw [List.getElem?_map, List.getElem?_map, List.getElem?_map]
        by_cases hk : k < n
        · obtain ⟨x, hx⟩ := get_lt HN.out.symm hk
          rw [List.getElem?_range hk, hx]
          simp [show k < j by omega, List.getD_eq_getElem?_getD, hx]
        · rw [List.getElem?_eq_none (by simp; omega), List.getElem?_eq_none (by rw [← HN.out]; omega)]; rfl
      have hrd := hrow.rd
      rw [hls] at hrd
      have hok : ∀ v ∈ (xt.map Int.toNat).map V, okV v := fun v hv => by
        obtain ⟨t, _, rfl⟩ := List.mem_map.1 hv
        exact HVk.out t
      have HCO := Lib.hid (combine_any xc (some ⟨w.heap.size + 1 + 1, 0, none⟩) n n ((xt.map Int.toNat).map V) wr (by rw [List.length_map, List.length_map, HN.out]) (by unfold maxLen; omega) HC.out hok hrd)
      generalize hcv : comb xc ((xt.map Int.toNat).map V) = z at HCO
      have HCV := Lib.hid hcv
      obtain ⟨zc, zs⟩ := z
      have HZ2 := Lib.hid hz
      have HF2 := Lib.hid hF
      clear hls hrd hok hrow hz hF hcv
      go_wp2_with fail
      refine HCO.out.mono ?_
      rintro r w1 ⟨rfl, hb⟩
      have f1 : Fut wr w1 := hb
      have hz1 := HZ2.out.fut f1
      have g4 := hz1.cell (i := 0) rfl
      have g5 := hz1.cell (i := 1) rfl
      have g2 := hz1.fz 0
      have g3 := hz1.fz 1
      have HZ3 := Lib.hid hz1
      have HF3 := Lib.hid (HF2.out.trans f1)
      clear hb f1 hz1
      go_wp2_with fail
      refine bodyPost_ret (results_cell_row scomb_res _ _ (w.heap.size + 1) _ _ _ _ rfl ((HZ3.out.set 0 (.int .i64 zc)).set 1 (.int .i64 zs)) Try.underlying40 rfl (by kernel_rfl)) rfl ?_
      exact ⟨by rw [show ev V (toEE ⟨xh, xt, xc, xl0, xl1, xA, xk⟩) = ⟨zc, zs⟩ from HCV.out]; rfl, (HF3.out.setCell (p := ⟨w.heap.size + 1, 0, none⟩) (by simp only; omega) _).setCell (p := ⟨w.heap.size + 1, 1, none⟩) (by simp only; omega) _⟩
end Go.Proofs.Ytleapckcihcpaaa
