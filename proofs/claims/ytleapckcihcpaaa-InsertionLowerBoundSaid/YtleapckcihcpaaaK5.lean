/-
  The reference's Solve.
-/
import Derived.Test.YtleapckcihcpaaaK4
import Derived.Test.YtleapckcihcpaaaPref
namespace Go.Proofs.Ytleapckcihcpaaa
open Go.RowKit Go.Deep PK
attribute [local go_sem] Oper.lit Oper.litS fut_fut fut_drew World.cell?_alloc_some
attribute [local go_sem] World.frozen?_setCell
abbrev RowI (w : World) (b n : Nat) (E : Nat → Int) : Prop := w.rowIs b 3 n (fun i => .int .i64 (E i))
theorem RowI.set {w : World} {b n : Nat} {E : Nat → Int} (h : RowI w b n E) (i : Nat) (x : Int) : RowI (w.setCell ⟨b, i, none⟩ (.int .i64 x)) b n (upd E i x) :=
  (World.rowIs.set h i _).congr (fun k _ => by
    unfold upd
    by_cases e : k = i
    · simp [e]
    · simp [e])
theorem RowI.congr' {w : World} {b n : Nat} {E F : Nat → Int} (h : RowI w b n E) (e : ∀ i, i < n → E i = F i) : RowI w b n F := World.rowIs.congr h (fun i hi => by rw [e i hi])
theorem RowI.fut {w w' : World} {b n : Nat} {E : Nat → Int} (h : RowI w b n E) (hf : Fut w w') : RowI w' b n E := h.of_block (hf.block b h.lt)
/-- what the reference's Solve has laid in memory -/
structure RS (w : World) (b N n : Nat) (A : Option Addr) (c : Nat) (wr : World) (V : Nat → VV) (E : Nat → Int) : Prop where
  hb : w.heap.size ≤ b
  fut : Fut w wr
  h0 : wr.cell? ⟨b, 0, none⟩ = some (.int .i64 (N : Int))
  h1 : wr.cell? ⟨b, 1, none⟩ = some (.slice A n c)
  v : RowV wr (b + 1) N V
  e : RowI wr (b + 1 + 1) N E
section
variable {w wr w2 : World} {b N n : Nat} {A : Option Addr} {c : Nat} {V : Nat → VV} {E : Nat → Int}
theorem RS.go (h : RS w b N n A c wr V E) (hf : Fut wr w2) : RS w b N n A c w2 V E := ⟨h.hb, h.fut.trans hf, hf.cell h.h0, hf.cell h.h1, h.v.fut hf, h.e.fut hf⟩
theorem RS.setV (h : RS w b N n A c wr V E) (i : Nat) (x : VV) : RS w b N n A c ((wr.setCell ⟨b + 1, i * 2, none⟩ (.int .i64 x.c)).setCell ⟨b + 1, i * 2 + 1, none⟩ (.int .i64 x.s)) (upd V i x) E := by
  have hb := h.hb
  refine ⟨h.hb, (h.fut.setCell (by simp only; omega) _).setCell (by simp only; omega) _, ?_, ?_, h.v.set i x, ?_⟩
  · exact (World.cell?_setCell_far _ ⟨b + 1, i * 2 + 1, none⟩ _ _ (by simp)).trans ((World.cell?_setCell_far _ ⟨b + 1, i * 2, none⟩ _ _ (by simp)).trans h.h0)
  · exact (World.cell?_setCell_far _ ⟨b + 1, i * 2 + 1, none⟩ _ _ (by simp)).trans ((World.cell?_setCell_far _ ⟨b + 1, i * 2, none⟩ _ _ (by simp)).trans h.h1)
  · exact (World.rowIs.setOther (World.rowIs.setOther h.e (a := ⟨b + 1, i * 2, none⟩) (by simp) _) (a := ⟨b + 1, i * 2 + 1, none⟩) (by simp) _)
theorem RS.setE (h : RS w b N n A c wr V E) (i : Nat) (x : Int) : RS w b N n A c (wr.setCell ⟨b + 1 + 1, i, none⟩ (.int .i64 x)) V (upd E i x) := by
  have hb := h.hb
  refine ⟨h.hb, h.fut.setCell (by simp only; omega) _, ?_, ?_, ?_, h.e.set i x⟩
  · exact (World.cell?_setCell_far _ ⟨b + 1 + 1, i, none⟩ _ _ (by simp; omega)).trans h.h0
  · exact (World.cell?_setCell_far _ ⟨b + 1 + 1, i, none⟩ _ _ (by simp; omega)).trans h.h1
  · exact World.rowIs.setOther h.v (a := ⟨b + 1 + 1, i, none⟩) (by simp) _
theorem RS.as {W : Nat → VV} {F : Nat → Int} (h : RS w b N n A c wr V E) (hV : ∀ i, i < N → V i = W i) (hE : ∀ i, i < N → E i = F i) : RS w b N n A c wr W F :=
  ⟨h.hb, h.fut, h.h0, h.h1, h.v.congr' hV, h.e.congr' hE⟩
end
/-- the sum of ranks, read off memory -/
def rankW (wr : World) (b : Nat) : Nat → Nat
  | 0 => 0
  | n + 1 => rankW wr b n + rank ⟨intOf ((wr.cell? ⟨b, n * 2, none⟩).getD undef), intOf ((wr.cell? ⟨b, n * 2 + 1, none⟩).getD undef)⟩
theorem rankW_eq {wr : World} {b N : Nat} {V : Nat → VV} (h : RowV wr b N V) : ∀ n, n ≤ N → rankW wr b n = rsum V n
  | 0, _ => rfl
  | n + 1, hn => by
    rw [rankW, rsum, rankW_eq h n (by omega), h.c (by omega), h.s (by omega)]
    rfl
theorem chL_drop {V : Nat → VV} {l : List EE} {m : Nat} {e : EE} (h : l[m]? = some e) (i : Nat) : chL V (l.drop m) (m : Int) i = if att V i e = true then (m : Int) else chL V (l.drop (m + 1)) ((m + 1 : Nat) : Int) i := by
  obtain ⟨hm, he⟩ := List.getElem?_eq_some_iff.1 h
  rw [List.drop_eq_getElem_cons hm, chL, he]
  push_cast
  rfl
/-- a truth value as a number -/
def bN : Value → Nat
  | .bool true => 1
  | _ => 0
set_option maxHeartbeats 6400000 in
set_option maxRecDepth 4000 in
theorem rsolve_any (N : Nat) (A : Option Addr) (n c : Nat) (es : List EI) (w : World) (hl : es.length = n) (hn : n ≤ 1000000) (hvd : validB N es = true) (htl : ∀ e ∈ es, e.t.length ≤ 1000000) (hR : RdE w A es) :
    Calls Try.prog 31 #[hv N A n c] w fun r w' => (∃ V vb eb, r = .returned (.tuple #[.slice (some ⟨vb, 0, none⟩) N N, .slice (some ⟨eb, 0, none⟩) N N]) ∧ Sol (EEs es) V ∧ RowV w' vb N V ∧ RowI w' eb N (chL V (EEs es) 0) ∧ w.heap.size ≤ vb ∧ w.heap.size ≤ eb) ∧ Below w.heap.size w w' := by
  obtain ⟨v1, v2, v3⟩ := validB_parts hvd
  have hN1 : 1 ≤ N := by omega
  have hN2 : N ≤ 1048576 := by omega
  have hes := EEs_ok hvd
  have HES := Lib.hid hes
  have HVD := Lib.hid v3
  have HTL := Lib.hid htl
  have HL := Lib.hid hl
  have hn63 : n ≤ 9223372036854775807 := by omega
  have hmk1 := run_make_vv N (by omega)
  have hmk2 := run_make_row' (P := Try.prog) 25 3 (.int .i64 0) 8 Try.underlying25 info_int rfl .i64 .i64 N (by omega) (by omega)
  have HR := Lib.hid hR
  clear v1 v2 v3 hes htl hl hR hvd
  go_enter Try.func31, Try.ntmps31
  go_wp2_with fail
  obtain ⟨b, hbb⟩ : ∃ b, b = w.heap.size := ⟨_, rfl⟩
  obtain ⟨wb, hwb⟩ : ∃ wb, wb = (((w.alloc (.cells #[.int .i64 (N : Int), .slice A n c] 54)).alloc (.cells (madeCells #[.int .i64 0, .int .i64 0] (N * 2)) 40)).alloc (.cells (madeCells #[.int .i64 0] N) 3)) := ⟨_, rfl⟩
  have HI0 := Lib.hid (show RS w b N n A c wb (fun _ => ⟨0, 0⟩) (fun _ => 0) from by
    subst hbb hwb
    refine ⟨Nat.le_refl _, (((Fut.refl w).alloc _).alloc _).alloc _, by (repeat (first | exact (cell_al_new _ _ _ _ _ _ (by first | rfl | (simp only [World.size_alloc]))).trans rfl | refine (cell_al_old _ _ _ (by first | omega | (simp only [World.size_alloc]; omega))).trans ?_)), by (repeat (first | exact (cell_al_new _ _ _ _ _ _ (by first | rfl | (simp only [World.size_alloc]))).trans rfl | refine (cell_al_old _ _ _ (by first | omega | (simp only [World.size_alloc]; omega))).trans ?_)), ?_, ?_⟩
    · have := (rowV_made (w.alloc (.cells #[.int .i64 (N : Int), .slice A n c] 54)) N).fut ((Fut.refl _).alloc (.cells (madeCells #[.int .i64 0] N) 3))
      simp only [World.size_alloc] at this
      exact this
    · have := World.rowIs_made ((w.alloc (.cells #[.int .i64 (N : Int), .slice A n c] 54)).alloc (.cells (madeCells #[.int .i64 0, .int .i64 0] (N * 2)) 40)) (.int .i64 0) N 3
      simp only [World.size_alloc] at this
      exact this)
  rw [← hwb, ← hbb]
  have HBB := Lib.hid hbb
  clear hwb hbb hmk1 hmk2
  go_loopw [6] (fun i wr => ∃ j : Nat, j ≤ N ∧ i = .int .i64 j ∧ Hid (RS w b N n A c wr (fun k => if k < j then top else ⟨0, 0⟩) (fun k => if k < j then -1 else 0))) (fun i _ => N - (intOf i).toNat)
  case atStart => exact ⟨0, Nat.zero_le _, rfl, Lib.hid (HI0.out.as (fun i _ => by simp) (fun i _ => by simp))⟩
  case round =>
    obtain ⟨j, hj, rfl, HI⟩ := hrel
    have g0 := HI.out.h0
    by_cases hlt : j < N
    · have g2 := HI.out.v.c hlt
      have g3 := HI.out.v.s hlt
      have g4 := World.rowIs.frozen HI.out.v (j * 2)
      have g5 := World.rowIs.frozen HI.out.v (j * 2 + 1)
      have g6 := World.rowIs.cell HI.out.e hlt
      have g7 := World.rowIs.frozen HI.out.e j
      have g8 : ∀ u v, ((wr.setCell ⟨b + 1, j * 2, none⟩ u).setCell ⟨b + 1, j * 2 + 1, none⟩ v).cell? ⟨b + 1 + 1, j, none⟩ = some (.int .i64 (if j < j then -1 else 0)) := fun u v => (World.cell?_setCell_far _ ⟨b + 1, j * 2 + 1, none⟩ _ _ (by simp)).trans ((World.cell?_setCell_far _ ⟨b + 1, j * 2, none⟩ _ _ (by simp)).trans g6)
      clear g6
      go_wp2_with fail
      refine ⟨⟨j + 1, by omega, by go_num, Lib.hid ?_⟩, by simp [intOf]; omega⟩
      refine ((HI.out.setV j top).setE j (-1)).as (fun i _ => ?_) (fun i _ => ?_)
      · by_cases e : i = j
        · subst e; rw [upd_same, if_pos (by omega)]
        · rw [upd_other _ _ _ _ e]
          by_cases e2 : i < j
          · rw [if_pos e2, if_pos (by omega)]
          · rw [if_neg e2, if_neg (by omega)]
      · by_cases e : i = j
        · subst e; rw [upd_same, if_pos (by omega)]
        · rw [upd_other _ _ _ _ e]
          by_cases e2 : i < j
          · rw [if_pos e2, if_pos (by omega)]
          · rw [if_neg e2, if_neg (by omega)]
    · have HI1 := Lib.hid (show RS w b N n A c wr (fun _ => top) (fun _ => -1) from HI.out.as (fun i hi => by rw [if_pos (by omega)]) (fun i hi => by rw [if_pos (by omega)]))
      clear HI
      go_wp2_with fail
      obtain ⟨wo, rfl⟩ : ∃ x, x = wr := ⟨_, rfl⟩
      go_loopw [7] (fun m wr => ∃ (V : Nat → VV) (mb : Bool), m = .bool mb ∧ Hid (RS w b N n A c wr V (fun _ => -1)) ∧ Hid ((∀ v, okV (V v)) ∧ Above (EEs es) V) ∧ Hid (mb = false → PK.Closed (EEs es) V)) (fun m wr => 2 * rankW wr (b + 1) N + bN m)
      case atStart => exact ⟨_, true, rfl, HI1, Lib.hid ⟨fun _ => okV_top, above_top⟩, Lib.hid (fun h => by cases h)⟩
      case round =>
        obtain ⟨V, mb, rfl, HIo, HOKo, HCL⟩ := hrel
        cases mb with
        | true =>
          clear HCL
          go_wp2_with fail
          obtain ⟨wo, rfl⟩ : ∃ x, x = wr := ⟨_, rfl⟩
          go_loopw [7, 8] (fun m k wr => ∃ (j : Nat) (V' : Nat → VV) (mb : Bool), j ≤ n ∧ k = .int .i64 j ∧ m = .bool mb ∧ Hid (RS w b N n A c wr V' (fun _ => -1)) ∧ Hid ((∀ v, okV (V' v)) ∧ Above (EEs es) V') ∧ Hid ((mb = true ∧ rsum V' N < rsum V N) ∨ (mb = false ∧ V' = V ∧ ∀ (i : Nat) (e : EE), i < j → (EEs es)[i]? = some e → leV (V e.h) (ev V e)))) (fun _ k _ => n - (intOf k).toNat)
          case atStart => exact ⟨0, V, false, Nat.zero_le _, rfl, rfl, HIo, HOKo, Lib.hid (.inr ⟨rfl, rfl, fun i e hi => by omega⟩)⟩
          case round =>
            obtain ⟨j, V', mb, hj, rfl, rfl, HI, HOK, HD⟩ := hrel
            by_cases hlt : j < n
            · obtain ⟨x, hx⟩ := get_lt HL.out (show j < n by omega)
              have hxm := List.mem_of_getElem? hx
              obtain ⟨x1, x2, x3, x4, x5⟩ := okE_parts (HVD.out x hxm)
              obtain ⟨b2, o2, rfl, hc⟩ := (HR.out.fut HI.out.fut).1 j x hx
              obtain ⟨ht, _⟩ := (HR.out.fut HI.out.fut).2 x hxm
              have htl := HTL.out x hxm
              obtain ⟨xh, xt, xc, xl0, xl1, xA, xk⟩ := x
              simp only at x1 x2 x3 x4 x5 htl ht
              obtain ⟨h9, rfl⟩ : ∃ h : Nat, xh = h := ⟨xh.toNat, by omega⟩
              have hh9 : h9 < N := by omega
              have c0 := hc 0 _ (by decide) rfl
              have c1 := hc 1 _ (by decide) rfl
              have c2 := hc 2 _ (by decide) rfl
              have c3 := hc 3 _ (by decide) rfl
              have c4 := hc 4 _ (by decide) rfl
              simp only [Nat.add_zero] at c0
              have g1 := HI.out.h1
              have htl63 : xt.length ≤ 9223372036854775807 := by omega
              have HX := Lib.hid hx
              have HT := Lib.hid ht
              have HXC := Lib.hid (show 0 ≤ xc ∧ xc ≤ INF from ⟨x3, x4⟩)
              have HX5 := Lib.hid x5
              have HEX := Lib.hid (show (EEs es)[j]? = some (toEE ⟨(h9 : Int), xt, xc, xl0, xl1, xA, xk⟩) from by rw [List.getElem?_map, hx]; rfl)
              have HEM := Lib.hid (show toEE ⟨(h9 : Int), xt, xc, xl0, xl1, xA, xk⟩ ∈ EEs es from List.mem_map.2 ⟨_, hxm, rfl⟩)
              clear hx hxm hc ht x5 x1 x2 x3 x4
              obtain ⟨y, hy⟩ : ∃ y, y = ev V' (toEE ⟨(h9 : Int), xt, xc, xl0, xl1, xA, xk⟩) := ⟨_, rfl⟩
              obtain ⟨yc, ys⟩ := y
              have HY := Lib.hid hy
              clear hy
              go_wp2_with fail
              obtain ⟨eb, heb⟩ : ∃ eb, eb = wr.heap.size := ⟨_, rfl⟩
              rw [← heb]
              obtain ⟨wx, hwx⟩ : ∃ wx, wx = wr.alloc (.cells #[.int .i64 (h9 : Int), .slice xA xt.length xk, .int .i64 xc, .int .i64 xl0, .int .i64 xl1] 59) := ⟨_, rfl⟩
              have y0 : ∀ dd os, (fut wx dd os).cell? ⟨eb, 0, none⟩ = some (.int .i64 (h9 : Int)) := cell_fut (by rw [hwx, heb]; (repeat (first | exact (cell_al_new _ _ _ _ _ _ (by first | rfl | (simp only [World.size_alloc]))).trans rfl | refine (cell_al_old _ _ _ (by first | omega | (simp only [World.size_alloc]; omega))).trans ?_)))
              have y1 : ∀ dd os, (fut wx dd os).cell? ⟨eb, 1, none⟩ = some (.slice xA xt.length xk) := cell_fut (by rw [hwx, heb]; (repeat (first | exact (cell_al_new _ _ _ _ _ _ (by first | rfl | (simp only [World.size_alloc]))).trans rfl | refine (cell_al_old _ _ _ (by first | omega | (simp only [World.size_alloc]; omega))).trans ?_)))
              have y2 : ∀ dd os, (fut wx dd os).cell? ⟨eb, 2, none⟩ = some (.int .i64 xc) := cell_fut (by rw [hwx, heb]; (repeat (first | exact (cell_al_new _ _ _ _ _ _ (by first | rfl | (simp only [World.size_alloc]))).trans rfl | refine (cell_al_old _ _ _ (by first | omega | (simp only [World.size_alloc]; omega))).trans ?_)))
              have y3 : ∀ dd os, (fut wx dd os).cell? ⟨eb, 3, none⟩ = some (.int .i64 xl0) := cell_fut (by rw [hwx, heb]; (repeat (first | exact (cell_al_new _ _ _ _ _ _ (by first | rfl | (simp only [World.size_alloc]))).trans rfl | refine (cell_al_old _ _ _ (by first | omega | (simp only [World.size_alloc]; omega))).trans ?_)))
              have y4 : ∀ dd os, (fut wx dd os).cell? ⟨eb, 4, none⟩ = some (.int .i64 xl1) := cell_fut (by rw [hwx, heb]; (repeat (first | exact (cell_al_new _ _ _ _ _ _ (by first | rfl | (simp only [World.size_alloc]))).trans rfl | refine (cell_al_old _ _ _ (by first | omega | (simp only [World.size_alloc]; omega))).trans ?_)))
              have HIX := Lib.hid (show RS w b N n (some ⟨b2, o2, none⟩) c wx V' (fun _ => -1) from by rw [hwx]; exact HI.out.go ((Fut.refl wr).alloc _))
              have HTX := Lib.hid (show Rd1 wx xA (.int .i64 ·) xt from by rw [hwx]; exact HT.out.fut ((Fut.refl wr).alloc _))
              rw [← hwx]
              clear hwx heb
              have HTA := Lib.hid (fun w' (hf : Fut wx w') => rtails_any (b + 1) N V' ⟨(h9 : Int), xt, xc, xl0, xl1, xA, xk⟩ w' (HIX.out.v.fut hf) (by omega) HX5.out (by simp only; omega) (HTX.out.fut hf))
              have HCM := Lib.hid (fun w' TA tc (hrd : RdS w' TA 2 encV ((xt.map Int.toNat).map V')) => rcombine_any xc TA xt.length tc ((xt.map Int.toNat).map V') w' (by rw [List.length_map, List.length_map]) (by unfold maxLen; omega) HXC.out (fun v hv => by
                obtain ⟨t, _, rfl⟩ := List.mem_map.1 hv
                exact HOK.out.1 t) hrd)
              refine wp_region_M o_emendateref29_Solve_14 (by kernel_rfl) (by kernel_rfl) (by intro c a d v w h; cases d <;> exact h) ?_; unfold o_emendateref29_Solve_14
              iterate 4 (refine wpF_h rfl rfl (fun K hK => ?_); go_simp; refine hK _ _ ?_; clear hK K)
              refine wpF_two rfl rfl (fun K hK => ?_) (fun K hK => ?_)
              · go_simp
                go_at_call 26
                refine (HTA.out _ ((Fut.refl wx).drew)).mono ?_
                rintro r wt ⟨⟨TA, tc, rfl, hrd⟩, hbt⟩
                have ht0 : Fut wx wt := ((Fut.refl wx).drew).trans hbt
                refine hK _ _ (.inr hbt) ?_
                clear hK K hbt
                refine wpF_two rfl rfl (fun K hK => ?_) (fun K hK => ?_)
                · go_simp
                  go_at_call 25
                  refine (HCM.out _ _ _ (hrd)).mono ?_
                  rintro r wc ⟨hr, hbc⟩
                  rw [show comb xc ((xt.map Int.toNat).map V') = ⟨yc, ys⟩ from HY.out.symm] at hr
                  subst hr
                  have hc0 : Fut wx wc := (ht0).trans hbc
                  refine hK _ _ (.inr hbc) ?_
                  clear hK K
                  refine wpF_o rfl rfl (fun K hK => ?_)
                  go_simp
                  refine hK _ _ (.inr ((Fut.refl _).alloc _)) ?_
                  clear hK K
                  obtain ⟨q, hqq⟩ : ∃ q, q = wc.heap.size := ⟨_, rfl⟩
                  rw [← hqq]
                  have hq : Blk (wc.alloc (.cells #[.int .i64 0, .int .i64 0] 40)) q 40 #[.int .i64 0, .int .i64 0] := by rw [hqq]; exact Blk.new wc _ _
                  have hfs : Fut wx (wc.alloc (.cells #[.int .i64 0, .int .i64 0] 40)) := hc0.alloc _
                  have hql : wx.heap.size ≤ q := by rw [hqq]; exact hc0.size
                  clear hqq hc0 hrd ht0 hbc
                  have HQ := Lib.hid hq
                  have HFS := Lib.hid hfs
                  have HQL := Lib.hid hql
                  clear hq hfs hql
                  generalize wc.alloc (.cells #[.int .i64 0, .int .i64 0] 40) = ws at *
                  refine wpF_o rfl rfl (fun K hK => ?_)
                  have z0 := HQ.out.cell (i := 0) rfl
                  have z1 := HQ.out.cell (i := 1) rfl
                  have z2 := HQ.out.fz 0
                  have z3 := HQ.out.fz 1
                  go_simp
                  refine hK _ _ (.inl (by kernel_rfl)) ?_
                  clear hK K z0 z1 z2 z3
                  have HQZ := Lib.hid (show Blk ((ws.setCell ⟨q, 0, none⟩ (.int .i64 yc)).setCell ⟨q, 1, none⟩ (.int .i64 ys)) q 40 #[.int .i64 yc, .int .i64 ys] from (HQ.out.set 0 _).set 1 _)
                  have HFZ := Lib.hid (show Fut wx ((ws.setCell ⟨q, 0, none⟩ (.int .i64 yc)).setCell ⟨q, 1, none⟩ (.int .i64 ys)) from (HFS.out.setCell (p := ⟨q, 0, none⟩) HQL.out _).setCell (p := ⟨q, 1, none⟩) HQL.out _)
                  generalize ((ws.setCell ⟨q, 0, none⟩ (.int .i64 yc)).setCell ⟨q, 1, none⟩ (.int .i64 ys)) = wz at *
                  clear HQ HFS HQL
                  refine wpF_nil ?_
                  have HIZ := Lib.hid (HIX.out.go HFZ.out)
                  clear HIX
                  have t0 := cell_fut (HQZ.out.cell (i := 0) rfl)
                  have t1 := cell_fut (HQZ.out.cell (i := 1) rfl)
                  have t2 := cell_fut (HFZ.out.cell (y0 0 #[]))
                  have t3 := cell_fut (HIZ.out.v.c hh9)
                  have t4 := cell_fut (HIZ.out.v.s hh9)
                  obtain ⟨zc, hzc⟩ : ∃ z, z = (V' h9).c := ⟨_, rfl⟩
                  obtain ⟨zs, hzs⟩ : ∃ z, z = (V' h9).s := ⟨_, rfl⟩
                  rw [← hzc] at t3
                  rw [← hzs] at t4
                  have HZ := Lib.hid (show V' h9 = ⟨zc, zs⟩ from by rw [hzc, hzs])
                  clear hzc hzs
                  go_wp2_with fail
                  refine wp_region_M o_emendateref29_Solve_15 (by kernel_rfl) (by kernel_rfl) (by intro c a d v w h; cases d <;> exact h) ?_; unfold o_emendateref29_Solve_15
                  iterate 6 (refine wpF_h rfl rfl (fun K hK => ?_); go_simp; refine hK _ _ ?_; clear hK K)
                  refine wpF_o rfl rfl (fun K hK => ?_)
                  go_simp
                  go_at_call 23
                  refine (rless_any ⟨yc, ys⟩ ⟨zc, zs⟩ _).mono ?_
                  rintro r w9 ⟨rfl, hb9⟩
                  have HF9 := Lib.hid (show Fut wz w9 from (Fut.refl wz).drew.trans hb9)
                  refine hK _ _ (.inr hb9) ?_
                  clear hK K hb9
                  refine wpF_nil ?_
                  have HI9 := Lib.hid (HIZ.out.go HF9.out)
                  have t0 := HF9.out.cell (t0 0 #[])
                  have t1 := HF9.out.cell (t1 0 #[])
                  have t2 := HF9.out.cell (t2 0 #[])
                  have t3 := HF9.out.cell (t3 0 #[])
                  have t4 := HF9.out.cell (t4 0 #[])
                  clear y0 y1 y2 y3 y4
                  have g4 := World.rowIs.frozen HI9.out.v (h9 * 2)
                  have g5 := World.rowIs.frozen HI9.out.v (h9 * 2 + 1)
                  generalize hlb : ltV ⟨yc, ys⟩ ⟨zc, zs⟩ = lb
                  have HLS := Lib.hid hlb
                  clear hlb
                  cases lb with
                  | true =>
                    go_wp2_with fail
                    have hyok : okV ⟨yc, ys⟩ := by rw [HY.out]; exact ev_ok (HES.out _ HEM.out) HOK.out.1
                    have hrk : rsum (upd V' h9 ⟨yc, ys⟩) N < rsum V' N := rsum_upd (rank_lt hyok (HOK.out.1 h9) (by rw [HZ.out]; exact HLS.out)) N hh9
                    refine ⟨⟨j + 1, upd V' h9 ⟨yc, ys⟩, true, by omega, by go_num, rfl, Lib.hid (HI9.out.setV h9 ⟨yc, ys⟩), Lib.hid ⟨ok_upd HOK.out.1 hyok, ?_⟩, Lib.hid (.inl ⟨rfl, ?_⟩)⟩, by simp [intOf]; omega⟩
                    · have h8 := Above.step HES.out HOK.out.1 HOK.out.2 HEM.out
                      rw [← HY.out] at h8
                      exact h8
                    · rcases HD.out with ⟨_, h8⟩ | ⟨_, h8, _⟩
                      · omega
                      · rw [← h8]; exact hrk
                  | false =>
                    go_wp2_with fail
                    refine ⟨⟨j + 1, V', mb, by omega, by go_num, rfl, HI9, HOK, Lib.hid ?_⟩, by simp [intOf]; omega⟩
                    rcases HD.out with h8 | ⟨h7, h8, h6⟩
                    · exact .inl h8
                    · refine .inr ⟨h7, h8, fun i e hi he => ?_⟩
                      by_cases hij : i = j
                      · subst hij
                        rw [HEX.out] at he
                        obtain rfl := Option.some.inj he
                        have h5 := leV_of_not_lt HLS.out
                        rw [← HZ.out, HY.out, h8] at h5
                        exact h5
                      · exact h6 i e (by omega) he
                · go_simp
                  refine hK _ _ (.inr ((Fut.refl _).alloc _)) ?_
                  clear hK K
                  obtain ⟨q, hqq⟩ : ∃ q, q = wt.heap.size := ⟨_, rfl⟩
                  rw [← hqq]
                  have hq0 : Blk (wt.alloc (.cells #[.int .i64 0, .int .i64 0] 40)) q 40 #[.int .i64 0, .int .i64 0] := by rw [hqq]; exact Blk.new wt _ _
                  have hql : wx.heap.size ≤ q := by rw [hqq]; exact ht0.size
                  clear hqq
                  refine wpF_o rfl rfl (fun K hK => ?_)
                  go_simp
                  go_at_call 25
                  refine (HCM.out _ _ _ (hrd.fut ((Fut.refl wt).alloc _))).mono ?_
                  rintro r wc ⟨hr, hbc⟩
                  rw [show comb xc ((xt.map Int.toNat).map V') = ⟨yc, ys⟩ from HY.out.symm] at hr
                  subst hr
                  have hc0 : Fut wx wc := (ht0.alloc _).trans hbc
                  refine hK _ _ (.inr hbc) ?_
                  clear hK K
                  have hq : Blk wc q 40 #[.int .i64 0, .int .i64 0] := hq0.fut hbc
                  have hfs : Fut wx wc := hc0
                  clear hc0 hrd ht0 hbc hq0
                  have HQ := Lib.hid hq
                  have HFS := Lib.hid hfs
                  have HQL := Lib.hid hql
                  clear hq hfs hql
                  generalize wc = ws at *
                  refine wpF_o rfl rfl (fun K hK => ?_)
                  have z0 := HQ.out.cell (i := 0) rfl
                  have z1 := HQ.out.cell (i := 1) rfl
                  have z2 := HQ.out.fz 0
                  have z3 := HQ.out.fz 1
                  go_simp
                  refine hK _ _ (.inl (by kernel_rfl)) ?_
                  clear hK K z0 z1 z2 z3
                  have HQZ := Lib.hid (show Blk ((ws.setCell ⟨q, 0, none⟩ (.int .i64 yc)).setCell ⟨q, 1, none⟩ (.int .i64 ys)) q 40 #[.int .i64 yc, .int .i64 ys] from (HQ.out.set 0 _).set 1 _)
                  have HFZ := Lib.hid (show Fut wx ((ws.setCell ⟨q, 0, none⟩ (.int .i64 yc)).setCell ⟨q, 1, none⟩ (.int .i64 ys)) from (HFS.out.setCell (p := ⟨q, 0, none⟩) HQL.out _).setCell (p := ⟨q, 1, none⟩) HQL.out _)
                  generalize ((ws.setCell ⟨q, 0, none⟩ (.int .i64 yc)).setCell ⟨q, 1, none⟩ (.int .i64 ys)) = wz at *
                  clear HQ HFS HQL
                  refine wpF_nil ?_
                  have HIZ := Lib.hid (HIX.out.go HFZ.out)
                  clear HIX
                  have t0 := cell_fut (HQZ.out.cell (i := 0) rfl)
                  have t1 := cell_fut (HQZ.out.cell (i := 1) rfl)
                  have t2 := cell_fut (HFZ.out.cell (y0 0 #[]))
                  have t3 := cell_fut (HIZ.out.v.c hh9)
                  have t4 := cell_fut (HIZ.out.v.s hh9)
                  obtain ⟨zc, hzc⟩ : ∃ z, z = (V' h9).c := ⟨_, rfl⟩
                  obtain ⟨zs, hzs⟩ : ∃ z, z = (V' h9).s := ⟨_, rfl⟩
                  rw [← hzc] at t3
                  rw [← hzs] at t4
                  have HZ := Lib.hid (show V' h9 = ⟨zc, zs⟩ from by rw [hzc, hzs])
                  clear hzc hzs
                  go_wp2_with fail
                  refine wp_region_M o_emendateref29_Solve_15 (by kernel_rfl) (by kernel_rfl) (by intro c a d v w h; cases d <;> exact h) ?_; unfold o_emendateref29_Solve_15
                  iterate 6 (refine wpF_h rfl rfl (fun K hK => ?_); go_simp; refine hK _ _ ?_; clear hK K)
                  refine wpF_o rfl rfl (fun K hK => ?_)
                  go_simp
                  go_at_call 23
                  refine (rless_any ⟨yc, ys⟩ ⟨zc, zs⟩ _).mono ?_
                  rintro r w9 ⟨rfl, hb9⟩
                  have HF9 := Lib.hid (show Fut wz w9 from (Fut.refl wz).drew.trans hb9)
                  refine hK _ _ (.inr hb9) ?_
                  clear hK K hb9
                  refine wpF_nil ?_
                  have HI9 := Lib.hid (HIZ.out.go HF9.out)
                  have t0 := HF9.out.cell (t0 0 #[])
                  have t1 := HF9.out.cell (t1 0 #[])
                  have t2 := HF9.out.cell (t2 0 #[])
                  have t3 := HF9.out.cell (t3 0 #[])
                  have t4 := HF9.out.cell (t4 0 #[])
                  clear y0 y1 y2 y3 y4
                  have g4 := World.rowIs.frozen HI9.out.v (h9 * 2)
                  have g5 := World.rowIs.frozen HI9.out.v (h9 * 2 + 1)
                  generalize hlb : ltV ⟨yc, ys⟩ ⟨zc, zs⟩ = lb
                  have HLS := Lib.hid hlb
                  clear hlb
                  cases lb with
                  | true =>
                    go_wp2_with fail
                    have hyok : okV ⟨yc, ys⟩ := by rw [HY.out]; exact ev_ok (HES.out _ HEM.out) HOK.out.1
                    have hrk : rsum (upd V' h9 ⟨yc, ys⟩) N < rsum V' N := rsum_upd (rank_lt hyok (HOK.out.1 h9) (by rw [HZ.out]; exact HLS.out)) N hh9
                    refine ⟨⟨j + 1, upd V' h9 ⟨yc, ys⟩, true, by omega, by go_num, rfl, Lib.hid (HI9.out.setV h9 ⟨yc, ys⟩), Lib.hid ⟨ok_upd HOK.out.1 hyok, ?_⟩, Lib.hid (.inl ⟨rfl, ?_⟩)⟩, by simp [intOf]; omega⟩
                    · have h8 := Above.step HES.out HOK.out.1 HOK.out.2 HEM.out
                      rw [← HY.out] at h8
                      exact h8
                    · rcases HD.out with ⟨_, h8⟩ | ⟨_, h8, _⟩
                      · omega
                      · rw [← h8]; exact hrk
                  | false =>
                    go_wp2_with fail
                    refine ⟨⟨j + 1, V', mb, by omega, by go_num, rfl, HI9, HOK, Lib.hid ?_⟩, by simp [intOf]; omega⟩
                    rcases HD.out with h8 | ⟨h7, h8, h6⟩
                    · exact .inl h8
                    · refine .inr ⟨h7, h8, fun i e hi he => ?_⟩
                      by_cases hij : i = j
                      · subst hij
                        rw [HEX.out] at he
                        obtain rfl := Option.some.inj he
                        have h5 := leV_of_not_lt HLS.out
                        rw [← HZ.out, HY.out, h8] at h5
                        exact h5
                      · exact h6 i e (by omega) he
              · go_simp
                refine hK _ _ (.inr ((Fut.refl _).alloc _)) ?_
                clear hK K
                obtain ⟨q, hqq⟩ : ∃ q, q = wx.heap.size := ⟨_, rfl⟩
                rw [← hqq]
                have hq0 : Blk (wx.drew.alloc (.cells #[.int .i64 0, .int .i64 0] 40)) q 40 #[.int .i64 0, .int .i64 0] := by rw [hqq]; exact Blk.new wx.drew _ _
                have hql : wx.heap.size ≤ q := by omega
                clear hqq
                refine wpF_o rfl rfl (fun K hK => ?_)
                go_simp
                go_at_call 26
                refine (HTA.out _ (((Fut.refl wx).drew).alloc _)).mono ?_
                rintro r wt ⟨⟨TA, tc, rfl, hrd⟩, hbt⟩
                have hq1 := hq0.fut hbt
                have ht0 : Fut wx wt := (((Fut.refl wx).drew).alloc _).trans hbt
                refine hK _ _ (.inr hbt) ?_
                clear hK K hbt
                refine wpF_o rfl rfl (fun K hK => ?_)
                go_simp
                go_at_call 25
                refine (HCM.out _ _ _ (hrd)).mono ?_
                rintro r wc ⟨hr, hbc⟩
                rw [show comb xc ((xt.map Int.toNat).map V') = ⟨yc, ys⟩ from HY.out.symm] at hr
                subst hr
                have hc0 : Fut wx wc := (ht0).trans hbc
                refine hK _ _ (.inr hbc) ?_
                clear hK K
                have hq : Blk wc q 40 #[.int .i64 0, .int .i64 0] := hq1.fut hbc
                have hfs : Fut wx wc := hc0
                clear hc0 hrd ht0 hbc hq0 hq1
                have HQ := Lib.hid hq
                have HFS := Lib.hid hfs
                have HQL := Lib.hid hql
                clear hq hfs hql
                generalize wc = ws at *
                refine wpF_o rfl rfl (fun K hK => ?_)
                have z0 := HQ.out.cell (i := 0) rfl
                have z1 := HQ.out.cell (i := 1) rfl
                have z2 := HQ.out.fz 0
                have z3 := HQ.out.fz 1
                go_simp
                refine hK _ _ (.inl (by kernel_rfl)) ?_
                clear hK K z0 z1 z2 z3
                have HQZ := Lib.hid (show Blk ((ws.setCell ⟨q, 0, none⟩ (.int .i64 yc)).setCell ⟨q, 1, none⟩ (.int .i64 ys)) q 40 #[.int .i64 yc, .int .i64 ys] from (HQ.out.set 0 _).set 1 _)
                have HFZ := Lib.hid (show Fut wx ((ws.setCell ⟨q, 0, none⟩ (.int .i64 yc)).setCell ⟨q, 1, none⟩ (.int .i64 ys)) from (HFS.out.setCell (p := ⟨q, 0, none⟩) HQL.out _).setCell (p := ⟨q, 1, none⟩) HQL.out _)
                generalize ((ws.setCell ⟨q, 0, none⟩ (.int .i64 yc)).setCell ⟨q, 1, none⟩ (.int .i64 ys)) = wz at *
                clear HQ HFS HQL
                refine wpF_nil ?_
                have HIZ := Lib.hid (HIX.out.go HFZ.out)
                clear HIX
                have t0 := cell_fut (HQZ.out.cell (i := 0) rfl)
                have t1 := cell_fut (HQZ.out.cell (i := 1) rfl)
                have t2 := cell_fut (HFZ.out.cell (y0 0 #[]))
                have t3 := cell_fut (HIZ.out.v.c hh9)
                have t4 := cell_fut (HIZ.out.v.s hh9)
                obtain ⟨zc, hzc⟩ : ∃ z, z = (V' h9).c := ⟨_, rfl⟩
                obtain ⟨zs, hzs⟩ : ∃ z, z = (V' h9).s := ⟨_, rfl⟩
                rw [← hzc] at t3
                rw [← hzs] at t4
                have HZ := Lib.hid (show V' h9 = ⟨zc, zs⟩ from by rw [hzc, hzs])
                clear hzc hzs
                go_wp2_with fail
                refine wp_region_M o_emendateref29_Solve_15 (by kernel_rfl) (by kernel_rfl) (by intro c a d v w h; cases d <;> exact h) ?_; unfold o_emendateref29_Solve_15
                iterate 6 (refine wpF_h rfl rfl (fun K hK => ?_); go_simp; refine hK _ _ ?_; clear hK K)
                refine wpF_o rfl rfl (fun K hK => ?_)
                go_simp
                go_at_call 23
                refine (rless_any ⟨yc, ys⟩ ⟨zc, zs⟩ _).mono ?_
                rintro r w9 ⟨rfl, hb9⟩
                have HF9 := Lib.hid (show Fut wz w9 from (Fut.refl wz).drew.trans hb9)
                refine hK _ _ (.inr hb9) ?_
                clear hK K hb9
                refine wpF_nil ?_
                have HI9 := Lib.hid (HIZ.out.go HF9.out)
                have t0 := HF9.out.cell (t0 0 #[])
                have t1 := HF9.out.cell (t1 0 #[])
                have t2 := HF9.out.cell (t2 0 #[])
                have t3 := HF9.out.cell (t3 0 #[])
                have t4 := HF9.out.cell (t4 0 #[])
                clear y0 y1 y2 y3 y4
                have g4 := World.rowIs.frozen HI9.out.v (h9 * 2)
                have g5 := World.rowIs.frozen HI9.out.v (h9 * 2 + 1)
                generalize hlb : ltV ⟨yc, ys⟩ ⟨zc, zs⟩ = lb
                have HLS := Lib.hid hlb
                clear hlb
                cases lb with
                | true =>
                  go_wp2_with fail
                  have hyok : okV ⟨yc, ys⟩ := by rw [HY.out]; exact ev_ok (HES.out _ HEM.out) HOK.out.1
                  have hrk : rsum (upd V' h9 ⟨yc, ys⟩) N < rsum V' N := rsum_upd (rank_lt hyok (HOK.out.1 h9) (by rw [HZ.out]; exact HLS.out)) N hh9
                  refine ⟨⟨j + 1, upd V' h9 ⟨yc, ys⟩, true, by omega, by go_num, rfl, Lib.hid (HI9.out.setV h9 ⟨yc, ys⟩), Lib.hid ⟨ok_upd HOK.out.1 hyok, ?_⟩, Lib.hid (.inl ⟨rfl, ?_⟩)⟩, by simp [intOf]; omega⟩
                  · have h8 := Above.step HES.out HOK.out.1 HOK.out.2 HEM.out
                    rw [← HY.out] at h8
                    exact h8
                  · rcases HD.out with ⟨_, h8⟩ | ⟨_, h8, _⟩
                    · omega
                    · rw [← h8]; exact hrk
                | false =>
                  go_wp2_with fail
                  refine ⟨⟨j + 1, V', mb, by omega, by go_num, rfl, HI9, HOK, Lib.hid ?_⟩, by simp [intOf]; omega⟩
                  rcases HD.out with h8 | ⟨h7, h8, h6⟩
                  · exact .inl h8
                  · refine .inr ⟨h7, h8, fun i e hi he => ?_⟩
                    by_cases hij : i = j
                    · subst hij
                      rw [HEX.out] at he
                      obtain rfl := Option.some.inj he
                      have h5 := leV_of_not_lt HLS.out
                      rw [← HZ.out, HY.out, h8] at h5
                      exact h5
                    · exact h6 i e (by omega) he
            · have hjn : j = n := by omega
              have hall := HD.out
              have HJ := Lib.hid hjn
              have g1 := HI.out.h1
              clear hall hjn
              go_wp2_with fail
              refine ⟨⟨V', mb, rfl, HI, HOK, Lib.hid (fun hm => ?_)⟩, ?_⟩
              · rcases HD.out with ⟨h8, _⟩ | ⟨_, h8, h6⟩
                · rw [hm] at h8; cases h8
                · intro e he
                  obtain ⟨i, hi⟩ := List.getElem?_of_mem he
                  have hil := (List.getElem?_eq_some_iff.1 hi).1
                  rw [List.length_map, HL.out] at hil
                  rw [h8]
                  exact h6 i e (by rw [HJ.out]; exact hil) hi
              · rw [rankW_eq HI.out.v N (Nat.le_refl _), rankW_eq HIo.out.v N (Nat.le_refl _)]
                rcases HD.out with ⟨h8, h7⟩ | ⟨h8, h7, _⟩
                · subst h8; simp only [bN]; omega
                · subst h8; rw [h7]; simp only [bN]; omega
        | false =>
          have HSOL := Lib.hid (show Sol (EEs es) V from ⟨HOKo.out.1, HCL.out rfl, HOKo.out.2⟩)
          have g1 := HIo.out.h1
          have HOK := HOKo
          clear HOKo HCL
          go_wp2_with fail
          obtain ⟨wo, rfl⟩ : ∃ x, x = wr := ⟨_, rfl⟩
          clear g1
          go_loopw [11] (fun k wr => ∃ j : Nat, j ≤ n ∧ k = .int .i64 ((j : Int) - 1) ∧ Hid (RS w b N n A c wr V (chL V ((EEs es).drop j) (j : Int)))) (fun k _ => (intOf k + 1).toNat)
          case atStart => exact ⟨n, Nat.le_refl _, rfl, Lib.hid (HIo.out.as (fun _ _ => rfl) (fun i _ => by rw [List.drop_of_length_le (by rw [List.length_map, HL.out]; exact Nat.le_refl _)]; rfl))⟩
          case round =>
            obtain ⟨j, hj, rfl, HI⟩ := hrel
            by_cases hj0 : j = 0
            · subst hj0
              go_wp2_with fail
              go_ret2
              exact ⟨⟨V, b + 1, b + 1 + 1, rfl, HSOL.out, HI.out.v, HI.out.e, by have := HI.out.hb; omega, by have := HI.out.hb; omega⟩, HI.out.fut⟩
            · obtain ⟨m, rfl⟩ : ∃ m, j = m + 1 := ⟨j - 1, by omega⟩
              rw [show ((m + 1 : Nat) : Int) - 1 = (m : Int) by omega]
              have hmn : m < n := by omega
              clear hj0
              obtain ⟨x, hx⟩ := get_lt HL.out (show m < n by omega)
              have hxm := List.mem_of_getElem? hx
              obtain ⟨x1, x2, x3, x4, x5⟩ := okE_parts (HVD.out x hxm)
              obtain ⟨b2, o2, rfl, hc⟩ := (HR.out.fut HI.out.fut).1 m x hx
              obtain ⟨ht, _⟩ := (HR.out.fut HI.out.fut).2 x hxm
              have htl := HTL.out x hxm
              obtain ⟨xh, xt, xc, xl0, xl1, xA, xk⟩ := x
              simp only at x1 x2 x3 x4 x5 htl ht
              obtain ⟨h9, rfl⟩ : ∃ h : Nat, xh = h := ⟨xh.toNat, by omega⟩
              have hh9 : h9 < N := by omega
              have c0 := hc 0 _ (by decide) rfl
              have c1 := hc 1 _ (by decide) rfl
              have c2 := hc 2 _ (by decide) rfl
              have c3 := hc 3 _ (by decide) rfl
              have c4 := hc 4 _ (by decide) rfl
              simp only [Nat.add_zero] at c0
              have g1 := HI.out.h1
              have htl63 : xt.length ≤ 9223372036854775807 := by omega
              have HX := Lib.hid hx
              have HT := Lib.hid ht
              have HXC := Lib.hid (show 0 ≤ xc ∧ xc ≤ INF from ⟨x3, x4⟩)
              have HX5 := Lib.hid x5
              have HEX := Lib.hid (show (EEs es)[m]? = some (toEE ⟨(h9 : Int), xt, xc, xl0, xl1, xA, xk⟩) from by rw [List.getElem?_map, hx]; rfl)
              have HEM := Lib.hid (show toEE ⟨(h9 : Int), xt, xc, xl0, xl1, xA, xk⟩ ∈ EEs es from List.mem_map.2 ⟨_, hxm, rfl⟩)
              clear hx hxm hc ht x5 x1 x2 x3 x4
              obtain ⟨y, hy⟩ : ∃ y, y = ev V (toEE ⟨(h9 : Int), xt, xc, xl0, xl1, xA, xk⟩) := ⟨_, rfl⟩
              obtain ⟨yc, ys⟩ := y
              have HY := Lib.hid hy
              clear hy
              have t3 := HI.out.v.c hh9
              have t4 := HI.out.v.s hh9
              obtain ⟨zc, hzc⟩ : ∃ z, z = (V h9).c := ⟨_, rfl⟩
              obtain ⟨zs, hzs⟩ : ∃ z, z = (V h9).s := ⟨_, rfl⟩
              rw [← hzc] at t3
              rw [← hzs] at t4
              have HZ := Lib.hid (show V h9 = ⟨zc, zs⟩ from by rw [hzc, hzs])
              clear hzc hzs
              go_wp2_with fail
              obtain ⟨eb, heb⟩ : ∃ eb, eb = wr.heap.size := ⟨_, rfl⟩
              rw [← heb]
              obtain ⟨wx, hwx⟩ : ∃ wx, wx = (wr.alloc (.cells #[.int .i64 (h9 : Int), .slice xA xt.length xk, .int .i64 xc, .int .i64 xl0, .int .i64 xl1] 59)).alloc (.cells #[.int .i64 zc, .int .i64 zs] 40) := ⟨_, rfl⟩
              have y0 : ∀ dd os, (fut wx dd os).cell? ⟨eb, 0, none⟩ = some (.int .i64 (h9 : Int)) := cell_fut (by rw [hwx, heb]; (repeat (first | exact (cell_al_new _ _ _ _ _ _ (by first | rfl | (simp only [World.size_alloc]))).trans rfl | refine (cell_al_old _ _ _ (by first | omega | (simp only [World.size_alloc]; omega))).trans ?_)))
              have y1 : ∀ dd os, (fut wx dd os).cell? ⟨eb, 1, none⟩ = some (.slice xA xt.length xk) := cell_fut (by rw [hwx, heb]; (repeat (first | exact (cell_al_new _ _ _ _ _ _ (by first | rfl | (simp only [World.size_alloc]))).trans rfl | refine (cell_al_old _ _ _ (by first | omega | (simp only [World.size_alloc]; omega))).trans ?_)))
              have y2 : ∀ dd os, (fut wx dd os).cell? ⟨eb, 2, none⟩ = some (.int .i64 xc) := cell_fut (by rw [hwx, heb]; (repeat (first | exact (cell_al_new _ _ _ _ _ _ (by first | rfl | (simp only [World.size_alloc]))).trans rfl | refine (cell_al_old _ _ _ (by first | omega | (simp only [World.size_alloc]; omega))).trans ?_)))
              have y3 : ∀ dd os, (fut wx dd os).cell? ⟨eb, 3, none⟩ = some (.int .i64 xl0) := cell_fut (by rw [hwx, heb]; (repeat (first | exact (cell_al_new _ _ _ _ _ _ (by first | rfl | (simp only [World.size_alloc]))).trans rfl | refine (cell_al_old _ _ _ (by first | omega | (simp only [World.size_alloc]; omega))).trans ?_)))
              have y4 : ∀ dd os, (fut wx dd os).cell? ⟨eb, 4, none⟩ = some (.int .i64 xl1) := cell_fut (by rw [hwx, heb]; (repeat (first | exact (cell_al_new _ _ _ _ _ _ (by first | rfl | (simp only [World.size_alloc]))).trans rfl | refine (cell_al_old _ _ _ (by first | omega | (simp only [World.size_alloc]; omega))).trans ?_)))
              have y5 : ∀ dd os, (fut wx dd os).cell? ⟨eb + 1, 0, none⟩ = some (.int .i64 zc) := cell_fut (by rw [hwx, heb]; (repeat (first | exact (cell_al_new _ _ _ _ _ _ (by first | rfl | (simp only [World.size_alloc]))).trans rfl | refine (cell_al_old _ _ _ (by first | omega | (simp only [World.size_alloc]; omega))).trans ?_)))
              have y6 : ∀ dd os, (fut wx dd os).cell? ⟨eb + 1, 1, none⟩ = some (.int .i64 zs) := cell_fut (by rw [hwx, heb]; (repeat (first | exact (cell_al_new _ _ _ _ _ _ (by first | rfl | (simp only [World.size_alloc]))).trans rfl | refine (cell_al_old _ _ _ (by first | omega | (simp only [World.size_alloc]; omega))).trans ?_)))
              have HIX := Lib.hid (show RS w b N n (some ⟨b2, o2, none⟩) c wx V (chL V ((EEs es).drop (m + 1)) ((m + 1 : Nat) : Int)) from by rw [hwx]; exact HI.out.go (((Fut.refl wr).alloc _).alloc _))
              have HTX := Lib.hid (show Rd1 wx xA (.int .i64 ·) xt from by rw [hwx]; exact HT.out.fut (((Fut.refl wr).alloc _).alloc _))
              rw [← hwx]
              clear hwx heb t3 t4
              have HTA := Lib.hid (fun w' (hf : Fut wx w') => rtails_any (b + 1) N V ⟨(h9 : Int), xt, xc, xl0, xl1, xA, xk⟩ w' (HIX.out.v.fut hf) (by omega) HX5.out (by simp only; omega) (HTX.out.fut hf))
              have HCM := Lib.hid (fun w' TA tc (hrd : RdS w' TA 2 encV ((xt.map Int.toNat).map V)) => rcombine_any xc TA xt.length tc ((xt.map Int.toNat).map V) w' (by rw [List.length_map, List.length_map]) (by unfold maxLen; omega) HXC.out (fun v hv => by
                obtain ⟨t, _, rfl⟩ := List.mem_map.1 hv
                exact HOK.out.1 t) hrd)
              have HAT := Lib.hid (fun i => chL_drop (V := V) HEX.out i)
              have HNE : Hid (∀ i, i ≠ h9 → att V i (toEE ⟨(h9 : Int), xt, xc, xl0, xl1, xA, xk⟩) = false) := Lib.hid (fun i hi => by simp only [att, toEE, Int.toNat_natCast, Bool.and_eq_false_iff, decide_eq_false_iff_not]; exact .inl (.inl (decide_eq_false (fun e => hi e.symm))))
              have HAE : Hid (att V h9 (toEE ⟨(h9 : Int), xt, xc, xl0, xl1, xA, xk⟩) = (decide (zc < INF) && decide ((⟨yc, ys⟩ : VV) = ⟨zc, zs⟩))) := Lib.hid (by simp only [att, toEE, Int.toNat_natCast, decide_true, Bool.true_and]; rw [HZ.out]; congr 2; rw [HY.out, ← HZ.out]; rfl)
              by_cases hfin : zc < 1099511627776
              · refine wp_region_M o_emendateref29_Solve_23 (by kernel_rfl) (by kernel_rfl) (by intro c a d v w h; cases d <;> exact h) ?_; unfold o_emendateref29_Solve_23
                iterate 9 (refine wpF_h rfl rfl (fun K hK => ?_); go_simp; refine hK _ _ ?_; clear hK K)
                refine wpF_o rfl rfl (fun K hK => ?_)
                go_simp
                go_at_call 26
                refine (HTA.out _ ((Fut.refl wx).drew)).mono ?_
                rintro r wt ⟨⟨TA, tc, rfl, hrd⟩, hbt⟩
                have ht0 : Fut wx wt := ((Fut.refl wx).drew).trans hbt
                refine hK _ _ (.inr hbt) ?_
                clear hK K hbt
                refine wpF_o rfl rfl (fun K hK => ?_)
                go_simp
                go_at_call 25
                refine (HCM.out _ _ _ (hrd)).mono ?_
                rintro r wc ⟨hr, hbc⟩
                rw [show comb xc ((xt.map Int.toNat).map V) = ⟨yc, ys⟩ from HY.out.symm] at hr
                subst hr
                have hc0 : Fut wx wc := (ht0).trans hbc
                refine hK _ _ (.inr hbc) ?_
                clear hK K
                have HFC := Lib.hid hc0
                clear hc0 hrd ht0 hbc
                have hd : Hid (yc = zc ∧ ys = zs) ∨ (Hid (¬ ys = zs) ∧ Hid (yc = zc)) ∨ Hid (¬ yc = zc) := by
                  by_cases h1 : yc = zc
                  · by_cases h2 : ys = zs
                    · exact .inl (Lib.hid ⟨h1, h2⟩)
                    · exact .inr (.inl ⟨Lib.hid h2, Lib.hid h1⟩)
                  · exact .inr (.inr (Lib.hid h1))
                rcases hd with hd | ⟨hd, hd2⟩ | hd
                · have k1 : (yc = zc) = True := eq_true hd.out.1
                  have k2 : (ys = zs) = True := eq_true hd.out.2
                  have HA2 := Lib.hid (show att V h9 (toEE ⟨(h9 : Int), xt, xc, xl0, xl1, xA, xk⟩) = true from by rw [HAE.out, show decide (zc < INF) = true from decide_eq_true hfin, hd.out.1, hd.out.2]; simp)
                  iterate 2 (refine wpF_h rfl rfl (fun K hK => ?_); go_simp; refine hK _ _ ?_; clear hK K)
                  refine wpF_nil ?_
                  have HIC := Lib.hid (HIX.out.go HFC.out)
                  have t2 := HFC.out.cell (y0 0 #[])
                  have g5 := World.rowIs.cell HIC.out.e hh9
                  have g4 := World.rowIs.frozen HIC.out.e h9
                  go_wp2_with fail
                  refine ⟨⟨m, by omega, by go_num, Lib.hid ?_⟩, by simp [intOf]⟩
                  refine (HIC.out.setE h9 (m : Int)).as (fun _ _ => rfl) (fun i _ => ?_)
                  rw [HAT.out i]
                  by_cases e : i = h9
                  · subst e; rw [HA2.out, upd_same]; simp
                  · rw [HNE.out i e, upd_other _ _ _ _ e]; simp
                · have k1 : (yc = zc) = True := eq_true hd2.out
                  have k2 : (ys = zs) = False := eq_false hd.out
                  have HA2 := Lib.hid (show att V h9 (toEE ⟨(h9 : Int), xt, xc, xl0, xl1, xA, xk⟩) = false from by rw [HAE.out]; simp [hd.out])
                  iterate 2 (refine wpF_h rfl rfl (fun K hK => ?_); go_simp; refine hK _ _ ?_; clear hK K)
                  refine wpF_nil ?_
                  go_wp2_with fail
                  refine ⟨⟨m, by omega, by go_num, Lib.hid ?_⟩, by simp [intOf]⟩
                  refine (HIX.out.go HFC.out).as (fun _ _ => rfl) (fun i _ => ?_)
                  rw [HAT.out i]
                  by_cases e : i = h9
                  · subst e; rw [HA2.out]; simp
                  · rw [HNE.out i e]; simp
                · have k1 : (yc = zc) = False := eq_false hd.out
                  have HA2 := Lib.hid (show att V h9 (toEE ⟨(h9 : Int), xt, xc, xl0, xl1, xA, xk⟩) = false from by rw [HAE.out]; simp [hd.out])
                  iterate 2 (refine wpF_h rfl rfl (fun K hK => ?_); go_simp; refine hK _ _ ?_; clear hK K)
                  refine wpF_nil ?_
                  go_wp2_with fail
                  refine ⟨⟨m, by omega, by go_num, Lib.hid ?_⟩, by simp [intOf]⟩
                  refine (HIX.out.go HFC.out).as (fun _ _ => rfl) (fun i _ => ?_)
                  rw [HAT.out i]
                  by_cases e : i = h9
                  · subst e; rw [HA2.out]; simp
                  · rw [HNE.out i e]; simp
              · have hat : att V h9 (toEE ⟨(h9 : Int), xt, xc, xl0, xl1, xA, xk⟩) = false := by
                  rw [HAE.out]
                  have : ¬ zc < INF := hfin
                  simp [this]
                have HA2 := Lib.hid hat
                clear hat
                refine wp_region_M o_emendateref29_Solve_23 (by kernel_rfl) (by kernel_rfl) (by intro c a d v w h; cases d <;> exact h) ?_; unfold o_emendateref29_Solve_23
                iterate 4 (refine wpF_h rfl rfl (fun K hK => ?_); go_simp; refine hK _ _ ?_; clear hK K)
                iterate 5 (refine wpF_hs2 rfl rfl (fun K hK => ?_); go_simp; refine hK _ _ ?_; clear hK K)
                iterate 2 (refine wpF_os2 rfl rfl (fun K hK => ?_); go_simp; refine hK _ _ ?_; clear hK K)
                (refine wpF_hs2 rfl rfl (fun K hK => ?_); go_simp; refine hK _ _ ?_; clear hK K)
                (refine wpF_h rfl rfl (fun K hK => ?_); go_simp; refine hK _ _ ?_; clear hK K)
                refine wpF_nil ?_
                go_wp2_with fail
                refine ⟨⟨m, by omega, by go_num, Lib.hid ?_⟩, by simp [intOf]⟩
                refine (HIX.out.go (Fut.refl wx).drew).as (fun _ _ => rfl) (fun i _ => ?_)
                rw [HAT.out i]
                by_cases e : i = h9
                · subst e; rw [HA2.out]; simp
                · rw [HNE.out i e]; simp
end Go.Proofs.Ytleapckcihcpaaa
