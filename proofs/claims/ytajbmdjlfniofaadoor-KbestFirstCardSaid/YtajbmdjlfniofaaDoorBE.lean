/-
  Texts joined: The reference's Solve; A map keyed by numbers of which nothing is asked but that it is one: stores, entries, deletions succeed and leave a map; The queue: how it lies in memory; before, swap; The queue: swap, up, down.
-/
import Derived.Test.YtajbmdjlfniofaaDoorBC
import Derived.Test.YtajbmdjlfniofaaDoorBB
import Derived.Maps.OwnSet
import Derived.MapKept
import Derived.WideKeyEntry
/-
  The reference's Solve.
-/
namespace Go.Proofs.YtajbmdjlfniofaaDoor
open Go.RowKit Go.Deep PK
attribute [local go_sem] Oper.lit Oper.litS fut_fut fut_drew World.cell?_alloc_some
attribute [local go_sem] World.frozen?_setCell
abbrev RowI (w : World) (b n : Nat) (E : Nat → Int) : Prop := w.rowIs b 3 n (fun i => .int .i64 (E i))
theorem RowI.set {w : World} {b n : Nat} {E : Nat → Int} (h : RowI w b n E) (i : Nat) (x : Int) : RowI (w.setCell ⟨b, i, none⟩ (.int .i64 x)) b n (upd E i x) :=
 (World.rowIs.set h i _).congr (fun k _ => by
  unfold upd
  by_cases e : k = i
  ·
   simp [e]
  ·
   simp [e])
theorem RowI.congr' {w : World} {b n : Nat} {E F : Nat → Int} (h : RowI w b n E) (e : ∀ i, i < n → E i = F i) : RowI w b n F := World.rowIs.congr h (fun i hi => by rw [e i hi])
theorem RowI.fut {w w' : World} {b n : Nat} {E : Nat → Int} (h : RowI w b n E) (hf : Fut w w') : RowI w' b n E := h.of_block (hf.block b h.lt)
/-- what the reference's Solve has laid in memory -/
structure RS (w : World) (b N n : Nat) (A : Option Addr) (c : Nat) (wr : World) (V : Nat → VV) (E : Nat → Int) : Prop where
 hb : w.heap.size ≤ b
 fut : Fut w wr
 h0 : wr.cell? ⟨b, 0, none⟩ = some (.int .i64 (N : Int))
 h1 : wr.cell? ⟨b, 1, none⟩ = some (.slice A n c)
 v : RowV wr (b + 1) N V
 e : RowI wr (b + 1 + 1) N E
section
variable {w wr w2 : World} {b N n : Nat} {A : Option Addr} {c : Nat} {V : Nat → VV} {E : Nat → Int}
theorem RS.go (h : RS w b N n A c wr V E) (hf : Fut wr w2) : RS w b N n A c w2 V E := ⟨h.hb, h.fut.trans hf, hf.cell h.h0, hf.cell h.h1, h.v.fut hf, h.e.fut hf⟩
theorem RS.setV (h : RS w b N n A c wr V E) (i : Nat) (x : VV) : RS w b N n A c ((wr.setCell ⟨b + 1, i * 2, none⟩ (.int .i64 x.c)).setCell ⟨b + 1, i * 2 + 1, none⟩ (.int .i64 x.s)) (upd V i x) E := by
 have hb := h.hb
 refine ⟨h.hb, (h.fut.setCell (by simp only; omega) _).setCell (by simp only; omega) _, ?_, ?_, h.v.set i x, ?_⟩
 ·
  exact (World.cell?_setCell_far _ ⟨b + 1, i * 2 + 1, none⟩ _ _ (by simp)).trans ((World.cell?_setCell_far _ ⟨b + 1, i * 2, none⟩ _ _ (by simp)).trans h.h0)
 ·
  exact (World.cell?_setCell_far _ ⟨b + 1, i * 2 + 1, none⟩ _ _ (by simp)).trans ((World.cell?_setCell_far _ ⟨b + 1, i * 2, none⟩ _ _ (by simp)).trans h.h1)
 ·
  exact (World.rowIs.setOther (World.rowIs.setOther h.e (a := ⟨b + 1, i * 2, none⟩) (by simp) _) (a := ⟨b + 1, i * 2 + 1, none⟩) (by simp) _)
theorem RS.setE (h : RS w b N n A c wr V E) (i : Nat) (x : Int) : RS w b N n A c (wr.setCell ⟨b + 1 + 1, i, none⟩ (.int .i64 x)) V (upd E i x) := by
 have hb := h.hb
 refine ⟨h.hb, h.fut.setCell (by simp only; omega) _, ?_, ?_, ?_, h.e.set i x⟩
 ·
  exact (World.cell?_setCell_far _ ⟨b + 1 + 1, i, none⟩ _ _ (by simp; omega)).trans h.h0
 ·
  exact (World.cell?_setCell_far _ ⟨b + 1 + 1, i, none⟩ _ _ (by simp; omega)).trans h.h1
 ·
  exact World.rowIs.setOther h.v (a := ⟨b + 1 + 1, i, none⟩) (by simp) _
theorem RS.as {W : Nat → VV} {F : Nat → Int} (h : RS w b N n A c wr V E) (hV : ∀ i, i < N → V i = W i) (hE : ∀ i, i < N → E i = F i) : RS w b N n A c wr W F :=
 ⟨h.hb, h.fut, h.h0, h.h1, h.v.congr' hV, h.e.congr' hE⟩
end
/-- the sum of ranks, read off memory -/
def rankW (wr : World) (b : Nat) : Nat → Nat
 | 0 => 0
 | n + 1 => rankW wr b n + rank ⟨intOf ((wr.cell? ⟨b, n * 2, none⟩).getD undef), intOf ((wr.cell? ⟨b, n * 2 + 1, none⟩).getD undef)⟩
theorem rankW_eq {wr : World} {b N : Nat} {V : Nat → VV} (h : RowV wr b N V) : ∀ n, n ≤ N → rankW wr b n = rsum V n
 | 0, _ => rfl
 | n + 1, hn => by
  rw [rankW, rsum, rankW_eq h n (by omega), h.c (by omega), h.s (by omega)]
  rfl
theorem chL_drop {V : Nat → VV} {l : List EE} {m : Nat} {e : EE} (h : l[m]? = some e) (i : Nat) : chL V (l.drop m) (m : Int) i = if att V i e = true then (m : Int) else chL V (l.drop (m + 1)) ((m + 1 : Nat) : Int) i := by
 obtain ⟨hm, he⟩ := List.getElem?_eq_some_iff.1 h
 rw [List.drop_eq_getElem_cons hm, chL, he]
 push_cast
 rfl
/-- a truth value as a number -/
def bN : Value → Nat
 | .bool true => 1
 | _ => 0
set_option maxHeartbeats 6400000 in
set_option maxRecDepth 4000 in
theorem rsolve_any (N : Nat) (A : Option Addr) (n c : Nat) (es : List EI) (w : World) (hl : es.length = n) (hn : n ≤ 1000000) (hvd : validB N es = true) (htl : ∀ e ∈ es, e.t.length ≤ 1000000) (hR : RdE w A es) :
  Calls Tryd.prog 32 #[hv N A n c] w fun r w' => (∃ V vb eb, r = .returned (.tuple #[.slice (some ⟨vb, 0, none⟩) N N, .slice (some ⟨eb, 0, none⟩) N N]) ∧ Sol (EEs es) V ∧ RowV w' vb N V ∧ RowI w' eb N (chL V (EEs es) 0) ∧ w.heap.size ≤ vb ∧ w.heap.size ≤ eb) ∧ Below w.heap.size w w' := by
 obtain ⟨v1, v2, v3⟩ := validB_parts hvd
 have hN1 : 1 ≤ N := by omega
 have hN2 : N ≤ 1048576 := by omega
 have hes := EEs_ok hvd
 have HES := Lib.hid hes
 have HVD := Lib.hid v3
 have HTL := Lib.hid htl
 have HL := Lib.hid hl
 have hn63 : n ≤ 9223372036854775807 := by omega
 have hmk1 := run_make_vv N (by omega)
 have hmk2 := run_make_row' (P := Tryd.prog) 46 3 (.int .i64 0) 8 Tryd.underlying46 info_int rfl .i64 .i64 N (by omega) (by omega)
 have HR := Lib.hid hR
 clear v1 v2 v3 hes htl hl hR hvd
 go_enter Tryd.func32, Tryd.ntmps32
 go_wp2_with fail
 obtain ⟨b, hbb⟩ : ∃ b, b = w.heap.size := ⟨_, rfl⟩
 obtain ⟨wb, hwb⟩ : ∃ wb, wb = (((w.alloc (.cells #[.int .i64 (N : Int), .slice A n c] 24)).alloc (.cells (madeCells #[.int .i64 0, .int .i64 0] (N * 2)) 37)).alloc (.cells (madeCells #[.int .i64 0] N) 3)) := ⟨_, rfl⟩
 have HI0 := Lib.hid (show RS w b N n A c wb (fun _ => ⟨0, 0⟩) (fun _ => 0) from by
  subst hbb hwb
  refine ⟨Nat.le_refl _, (((Fut.refl w).alloc _).alloc _).alloc _, by (repeat (first | exact (cell_al_new _ _ _ _ _ _ (by first | rfl | (simp only [World.size_alloc]))).trans rfl | refine (cell_al_old _ _ _ (by first | omega | (simp only [World.size_alloc]; omega))).trans ?_)), by (repeat (first | exact (cell_al_new _ _ _ _ _ _ (by first | rfl | (simp only [World.size_alloc]))).trans rfl | refine (cell_al_old _ _ _ (by first | omega | (simp only [World.size_alloc]; omega))).trans ?_)), ?_, ?_⟩
  ·
   have := (rowV_made (w.alloc (.cells #[.int .i64 (N : Int), .slice A n c] 24)) N).fut ((Fut.refl _).alloc (.cells (madeCells #[.int .i64 0] N) 3))
   simp only [World.size_alloc] at this
   exact this
  ·
   have := World.rowIs_made ((w.alloc (.cells #[.int .i64 (N : Int), .slice A n c] 24)).alloc (.cells (madeCells #[.int .i64 0, .int .i64 0] (N * 2)) 37)) (.int .i64 0) N 3
   simp only [World.size_alloc] at this
   exact this)
 rw [← hwb, ← hbb]
 have HBB := Lib.hid hbb
 clear hwb hbb hmk1 hmk2
 go_loopw [6] (fun i wr => ∃ j : Nat, j ≤ N ∧ i = .int .i64 j ∧ Hid (RS w b N n A c wr (fun k => if k < j then top else ⟨0, 0⟩) (fun k => if k < j then -1 else 0))) (fun i _ => N - (intOf i).toNat)
 case atStart => exact ⟨0, Nat.zero_le _, rfl, Lib.hid (HI0.out.as (fun i _ => by simp) (fun i _ => by simp))⟩
 case round =>
  obtain ⟨j, hj, rfl, HI⟩ := hrel
  have g0 := HI.out.h0
  by_cases hlt : j < N
  ·
   have g2 := HI.out.v.c hlt
   have g3 := HI.out.v.s hlt
   have g4 := World.rowIs.frozen HI.out.v (j * 2)
   have g5 := World.rowIs.frozen HI.out.v (j * 2 + 1)
   have g6 := World.rowIs.cell HI.out.e hlt
   have g7 := World.rowIs.frozen HI.out.e j
   have g8 : ∀ u v, ((wr.setCell ⟨b + 1, j * 2, none⟩ u).setCell ⟨b + 1, j * 2 + 1, none⟩ v).cell? ⟨b + 1 + 1, j, none⟩ = some (.int .i64 (if j < j then -1 else 0)) := fun u v => (World.cell?_setCell_far _ ⟨b + 1, j * 2 + 1, none⟩ _ _ (by simp)).trans ((World.cell?_setCell_far _ ⟨b + 1, j * 2, none⟩ _ _ (by simp)).trans g6)
   clear g6
   go_wp2_with fail
   refine ⟨⟨j + 1, by omega, by go_num, Lib.hid ?_⟩, by simp [intOf]; omega⟩
   refine ((HI.out.setV j top).setE j (-1)).as (fun i _ => ?_) (fun i _ => ?_)
   ·
    by_cases e : i = j
    ·
     subst e; rw [upd_same, if_pos (by omega)]
    ·
     rw [upd_other _ _ _ _ e]
     by_cases e2 : i < j
     ·
      rw [if_pos e2, if_pos (by omega)]
     ·
      rw [if_neg e2, if_neg (by omega)]
   ·
    by_cases e : i = j
    ·
     subst e; rw [upd_same, if_pos (by omega)]
    ·
     rw [upd_other _ _ _ _ e]
     by_cases e2 : i < j
     ·
      rw [if_pos e2, if_pos (by omega)]
     ·
      rw [if_neg e2, if_neg (by omega)]
  ·
   have HI1 := Lib.hid (show RS w b N n A c wr (fun _ => top) (fun _ => -1) from HI.out.as (fun i hi => by rw [if_pos (by omega)]) (fun i hi => by rw [if_pos (by omega)]))
   clear HI
   go_wp2_with fail
   obtain ⟨wo, rfl⟩ : ∃ x, x = wr := ⟨_, rfl⟩
   go_loopw [7] (fun m wr => ∃ (V : Nat → VV) (mb : Bool), m = .bool mb ∧ Hid (RS w b N n A c wr V (fun _ => -1)) ∧ Hid ((∀ v, okV (V v)) ∧ Above (EEs es) V) ∧ Hid (mb = false → PK.Closed (EEs es) V)) (fun m wr => 2 * rankW wr (b + 1) N + bN m)
   case atStart => exact ⟨_, true, rfl, HI1, Lib.hid ⟨fun _ => okV_top, above_top⟩, Lib.hid (fun h => by cases h)⟩
   case round =>
    obtain ⟨V, mb, rfl, HIo, HOKo, HCL⟩ := hrel
    cases mb with
    | true =>
     clear HCL
     go_wp2_with fail
     obtain ⟨wo, rfl⟩ : ∃ x, x = wr := ⟨_, rfl⟩
     go_loopw [7, 8] (fun m k wr => ∃ (j : Nat) (V' : Nat → VV) (mb : Bool), j ≤ n ∧ k = .int .i64 j ∧ m = .bool mb ∧ Hid (RS w b N n A c wr V' (fun _ => -1)) ∧ Hid ((∀ v, okV (V' v)) ∧ Above (EEs es) V') ∧ Hid ((mb = true ∧ rsum V' N < rsum V N) ∨ (mb = false ∧ V' = V ∧ ∀ (i : Nat) (e : EE), i < j → (EEs es)[i]? = some e → leV (V e.h) (ev V e)))) (fun _ k _ => n - (intOf k).toNat)
     case atStart => exact ⟨0, V, false, Nat.zero_le _, rfl, rfl, HIo, HOKo, Lib.hid (.inr ⟨rfl, rfl, fun i e hi => by omega⟩)⟩
     case round =>
      obtain ⟨j, V', mb, hj, rfl, rfl, HI, HOK, HD⟩ := hrel
      by_cases hlt : j < n
      ·
       obtain ⟨x, hx⟩ := get_lt HL.out (show j < n by omega)
       have hxm := List.mem_of_getElem? hx
       obtain ⟨x1, x2, x3, x4, x5⟩ := okE_parts (HVD.out x hxm)
       obtain ⟨b2, o2, rfl, hc⟩ := (HR.out.fut HI.out.fut).1 j x hx
       obtain ⟨ht, _⟩ := (HR.out.fut HI.out.fut).2 x hxm
       have htl := HTL.out x hxm
       obtain ⟨xh, xt, xc, xl0, xl1, xA, xk⟩ := x
       simp only at x1 x2 x3 x4 x5 htl ht
       obtain ⟨h9, rfl⟩ : ∃ h : Nat, xh = h := ⟨xh.toNat, by omega⟩
       have hh9 : h9 < N := by omega
       have c0 := hc 0 _ (by decide) rfl
       have c1 := hc 1 _ (by decide) rfl
       have c2 := hc 2 _ (by decide) rfl
       have c3 := hc 3 _ (by decide) rfl
       have c4 := hc 4 _ (by decide) rfl
       simp only [Nat.add_zero] at c0
       have g1 := HI.out.h1
       have htl63 : xt.length ≤ 9223372036854775807 := by omega
       have HX := Lib.hid hx
       have HT := Lib.hid ht
       have HXC := Lib.hid (show 0 ≤ xc ∧ xc ≤ INF from ⟨x3, x4⟩)
       have HX5 := Lib.hid x5
       have HEX := Lib.hid (show (EEs es)[j]? = some (toEE ⟨(h9 : Int), xt, xc, xl0, xl1, xA, xk⟩) from by rw [List.getElem?_map, hx]; rfl)
       have HEM := Lib.hid (show toEE ⟨(h9 : Int), xt, xc, xl0, xl1, xA, xk⟩ ∈ EEs es from List.mem_map.2 ⟨_, hxm, rfl⟩)
       clear hx hxm hc ht x5 x1 x2 x3 x4
       obtain ⟨y, hy⟩ : ∃ y, y = ev V' (toEE ⟨(h9 : Int), xt, xc, xl0, xl1, xA, xk⟩) := ⟨_, rfl⟩
       obtain ⟨yc, ys⟩ := y
       have HY := Lib.hid hy
       clear hy
       go_wp2_with fail
       obtain ⟨eb, heb⟩ : ∃ eb, eb = wr.heap.size := ⟨_, rfl⟩
       rw [← heb]
       obtain ⟨wx, hwx⟩ : ∃ wx, wx = wr.alloc (.cells #[.int .i64 (h9 : Int), .slice xA xt.length xk, .int .i64 xc, .int .i64 xl0, .int .i64 xl1] 49) := ⟨_, rfl⟩
       have y0 : ∀ dd os, (fut wx dd os).cell? ⟨eb, 0, none⟩ = some (.int .i64 (h9 : Int)) := cell_fut (by rw [hwx, heb]; (repeat (first | exact (cell_al_new _ _ _ _ _ _ (by first | rfl | (simp only [World.size_alloc]))).trans rfl | refine (cell_al_old _ _ _ (by first | omega | (simp only [World.size_alloc]; omega))).trans ?_)))
       have y1 : ∀ dd os, (fut wx dd os).cell? ⟨eb, 1, none⟩ = some (.slice xA xt.length xk) := cell_fut (by rw [hwx, heb]; (repeat (first | exact (cell_al_new _ _ _ _ _ _ (by first | rfl | (simp only [World.size_alloc]))).trans rfl | refine (cell_al_old _ _ _ (by first | omega | (simp only [World.size_alloc]; omega))).trans ?_)))
       have y2 : ∀ dd os, (fut wx dd os).cell? ⟨eb, 2, none⟩ = some (.int .i64 xc) := cell_fut (by rw [hwx, heb]; (repeat (first | exact (cell_al_new _ _ _ _ _ _ (by first | rfl | (simp only [World.size_alloc]))).trans rfl | refine (cell_al_old _ _ _ (by first | omega | (simp only [World.size_alloc]; omega))).trans ?_)))
       have y3 : ∀ dd os, (fut wx dd os).cell? ⟨eb, 3, none⟩ = some (.int .i64 xl0) := cell_fut (by rw [hwx, heb]; (repeat (first | exact (cell_al_new _ _ _ _ _ _ (by first | rfl | (simp only [World.size_alloc]))).trans rfl | refine (cell_al_old _ _ _ (by first | omega | (simp only [World.size_alloc]; omega))).trans ?_)))
       have y4 : ∀ dd os, (fut wx dd os).cell? ⟨eb, 4, none⟩ = some (.int .i64 xl1) := cell_fut (by rw [hwx, heb]; (repeat (first | exact (cell_al_new _ _ _ _ _ _ (by first | rfl | (simp only [World.size_alloc]))).trans rfl | refine (cell_al_old _ _ _ (by first | omega | (simp only [World.size_alloc]; omega))).trans ?_)))
       have HIX := Lib.hid (show RS w b N n (some ⟨b2, o2, none⟩) c wx V' (fun _ => -1) from by rw [hwx]; exact HI.out.go ((Fut.refl wr).alloc _))
       have HTX := Lib.hid (show Rd1 wx xA (.int .i64 ·) xt from by rw [hwx]; exact HT.out.fut ((Fut.refl wr).alloc _))
       rw [← hwx]
       clear hwx heb
       have HTA := Lib.hid (fun w' (hf : Fut wx w') => rtails_any (b + 1) N V' ⟨(h9 : Int), xt, xc, xl0, xl1, xA, xk⟩ w' (HIX.out.v.fut hf) (by omega) HX5.out (by simp only; omega) (HTX.out.fut hf))
       have HCM := Lib.hid (fun w' TA tc (hrd : RdS w' TA 2 encV ((xt.map Int.toNat).map V')) => rcombine_any xc TA xt.length tc ((xt.map Int.toNat).map V') w' (by rw [List.length_map, List.length_map]) (by unfold maxLen; omega) HXC.out (fun v hv => by
        obtain ⟨t, _, rfl⟩ := List.mem_map.1 hv
        exact HOK.out.1 t) hrd)
       refine wp_region_M o_emendateref29_Solve_14 (by kernel_rfl) (by kernel_rfl) (by intro c a d v w h; cases d <;> exact h) ?_; unfold o_emendateref29_Solve_14
       iterate 4 (refine wpF_h rfl rfl (fun K hK => ?_); go_simp; refine hK _ _ ?_; clear hK K)
       refine wpF_two rfl rfl (fun K hK => ?_) (fun K hK => ?_)
       ·
        go_simp
        go_at_call 45
        refine (HTA.out _ ((Fut.refl wx).drew)).mono ?_
        rintro r wt ⟨⟨TA, tc, rfl, hrd⟩, hbt⟩
        have ht0 : Fut wx wt := ((Fut.refl wx).drew).trans hbt
        refine hK _ _ (.inr hbt) ?_
        clear hK K hbt
        refine wpF_two rfl rfl (fun K hK => ?_) (fun K hK => ?_)
        ·
         go_simp
         go_at_call 26
         refine (HCM.out _ _ _ (hrd)).mono ?_
         rintro r wc ⟨hr, hbc⟩
         rw [show comb xc ((xt.map Int.toNat).map V') = ⟨yc, ys⟩ from HY.out.symm] at hr
         subst hr
         have hc0 : Fut wx wc := (ht0).trans hbc
         refine hK _ _ (.inr hbc) ?_
         clear hK K
         refine wpF_o rfl rfl (fun K hK => ?_)
         go_simp
         refine hK _ _ (.inr ((Fut.refl _).alloc _)) ?_
         clear hK K
         obtain ⟨q, hqq⟩ : ∃ q, q = wc.heap.size := ⟨_, rfl⟩
         rw [← hqq]
         have hq : Blk (wc.alloc (.cells #[.int .i64 0, .int .i64 0] 37)) q 37 #[.int .i64 0, .int .i64 0] := by rw [hqq]; exact Blk.new wc _ _
         have hfs : Fut wx (wc.alloc (.cells #[.int .i64 0, .int .i64 0] 37)) := hc0.alloc _
         have hql : wx.heap.size ≤ q := by rw [hqq]; exact hc0.size
         clear hqq hc0 hrd ht0 hbc
         have HQ := Lib.hid hq
         have HFS := Lib.hid hfs
         have HQL := Lib.hid hql
         clear hq hfs hql
         generalize wc.alloc (.cells #[.int .i64 0, .int .i64 0] 37) = ws at *
         refine wpF_o rfl rfl (fun K hK => ?_)
         have z0 := HQ.out.cell (i := 0) rfl
         have z1 := HQ.out.cell (i := 1) rfl
         have z2 := HQ.out.fz 0
         have z3 := HQ.out.fz 1
         go_simp
         refine hK _ _ (.inl (by kernel_rfl)) ?_
         clear hK K z0 z1 z2 z3
         have HQZ := Lib.hid (show Blk ((ws.setCell ⟨q, 0, none⟩ (.int .i64 yc)).setCell ⟨q, 1, none⟩ (.int .i64 ys)) q 37 #[.int .i64 yc, .int .i64 ys] from (HQ.out.set 0 _).set 1 _)
         have HFZ := Lib.hid (show Fut wx ((ws.setCell ⟨q, 0, none⟩ (.int .i64 yc)).setCell ⟨q, 1, none⟩ (.int .i64 ys)) from (HFS.out.setCell (p := ⟨q, 0, none⟩) HQL.out _).setCell (p := ⟨q, 1, none⟩) HQL.out _)
         generalize ((ws.setCell ⟨q, 0, none⟩ (.int .i64 yc)).setCell ⟨q, 1, none⟩ (.int .i64 ys)) = wz at *
         clear HQ HFS HQL
         refine wpF_nil ?_
         have HIZ := Lib.hid (HIX.out.go HFZ.out)
         clear HIX
         have t0 := cell_fut (HQZ.out.cell (i := 0) rfl)
         have t1 := cell_fut (HQZ.out.cell (i := 1) rfl)
         have t2 := cell_fut (HFZ.out.cell (y0 0 #[]))
         have t3 := cell_fut (HIZ.out.v.c hh9)
         have t4 := cell_fut (HIZ.out.v.s hh9)
         obtain ⟨zc, hzc⟩ : ∃ z, z = (V' h9).c := ⟨_, rfl⟩
         obtain ⟨zs, hzs⟩ : ∃ z, z = (V' h9).s := ⟨_, rfl⟩
         rw [← hzc] at t3
         rw [← hzs] at t4
         have HZ := Lib.hid (show V' h9 = ⟨zc, zs⟩ from by rw [hzc, hzs])
         clear hzc hzs
         go_wp2_with fail
         refine wp_region_M o_emendateref29_Solve_15 (by kernel_rfl) (by kernel_rfl) (by intro c a d v w h; cases d <;> exact h) ?_; unfold o_emendateref29_Solve_15
         iterate 6 (refine wpF_h rfl rfl (fun K hK => ?_); go_simp; refine hK _ _ ?_; clear hK K)
         refine wpF_o rfl rfl (fun K hK => ?_)
         go_simp
         go_at_call 27
         refine (rless_any ⟨yc, ys⟩ ⟨zc, zs⟩ _).mono ?_
         rintro r w9 ⟨rfl, hb9⟩
         have HF9 := Lib.hid (show Fut wz w9 from (Fut.refl wz).drew.trans hb9)
         refine hK _ _ (.inr hb9) ?_
         clear hK K hb9
         refine wpF_nil ?_
         have HI9 := Lib.hid (HIZ.out.go HF9.out)
         have t0 := HF9.out.cell (t0 0 #[])
         have t1 := HF9.out.cell (t1 0 #[])
         have t2 := HF9.out.cell (t2 0 #[])
         have t3 := HF9.out.cell (t3 0 #[])
         have t4 := HF9.out.cell (t4 0 #[])
         clear y0 y1 y2 y3 y4
         have g4 := World.rowIs.frozen HI9.out.v (h9 * 2)
         have g5 := World.rowIs.frozen HI9.out.v (h9 * 2 + 1)
         generalize hlb : ltV ⟨yc, ys⟩ ⟨zc, zs⟩ = lb
         have HLS := Lib.hid hlb
         clear hlb
         cases lb with
         | true =>
          go_wp2_with fail
          have hyok : okV ⟨yc, ys⟩ := by rw [HY.out]; exact ev_ok (HES.out _ HEM.out) HOK.out.1
          have hrk : rsum (upd V' h9 ⟨yc, ys⟩) N < rsum V' N := rsum_upd (rank_lt hyok (HOK.out.1 h9) (by rw [HZ.out]; exact HLS.out)) N hh9
          refine ⟨⟨j + 1, upd V' h9 ⟨yc, ys⟩, true, by omega, by go_num, rfl, Lib.hid (HI9.out.setV h9 ⟨yc, ys⟩), Lib.hid ⟨ok_upd HOK.out.1 hyok, ?_⟩, Lib.hid (.inl ⟨rfl, ?_⟩)⟩, by simp [intOf]; omega⟩
          ·
           have h8 := Above.step HES.out HOK.out.1 HOK.out.2 HEM.out
           rw [← HY.out] at h8
           exact h8
          ·
           rcases HD.out with ⟨_, h8⟩ | ⟨_, h8, _⟩
           ·
            omega
           ·
            rw [← h8]; exact hrk
         | false =>
          go_wp2_with fail
          refine ⟨⟨j + 1, V', mb, by omega, by go_num, rfl, HI9, HOK, Lib.hid ?_⟩, by simp [intOf]; omega⟩
          rcases HD.out with h8 | ⟨h7, h8, h6⟩
          ·
           exact .inl h8
          ·
           refine .inr ⟨h7, h8, fun i e hi he => ?_⟩
           by_cases hij : i = j
           ·
            subst hij
            rw [HEX.out] at he
            obtain rfl := Option.some.inj he
            have h5 := leV_of_not_lt HLS.out
            rw [← HZ.out, HY.out, h8] at h5
            exact h5
           ·
            exact h6 i e (by omega) he
        ·
         go_simp
         refine hK _ _ (.inr ((Fut.refl _).alloc _)) ?_
         clear hK K
         obtain ⟨q, hqq⟩ : ∃ q, q = wt.heap.size := ⟨_, rfl⟩
         rw [← hqq]
         have hq0 : Blk (wt.alloc (.cells #[.int .i64 0, .int .i64 0] 37)) q 37 #[.int .i64 0, .int .i64 0] := by rw [hqq]; exact Blk.new wt _ _
         have hql : wx.heap.size ≤ q := by rw [hqq]; exact ht0.size
         clear hqq
         refine wpF_o rfl rfl (fun K hK => ?_)
         go_simp
         go_at_call 26
         refine (HCM.out _ _ _ (hrd.fut ((Fut.refl wt).alloc _))).mono ?_
         rintro r wc ⟨hr, hbc⟩
         rw [show comb xc ((xt.map Int.toNat).map V') = ⟨yc, ys⟩ from HY.out.symm] at hr
         subst hr
         have hc0 : Fut wx wc := (ht0.alloc _).trans hbc
         refine hK _ _ (.inr hbc) ?_
         clear hK K
         have hq : Blk wc q 37 #[.int .i64 0, .int .i64 0] := hq0.fut hbc
         have hfs : Fut wx wc := hc0
         clear hc0 hrd ht0 hbc hq0
         have HQ := Lib.hid hq
         have HFS := Lib.hid hfs
         have HQL := Lib.hid hql
         clear hq hfs hql
         generalize wc = ws at *
         refine wpF_o rfl rfl (fun K hK => ?_)
         have z0 := HQ.out.cell (i := 0) rfl
         have z1 := HQ.out.cell (i := 1) rfl
         have z2 := HQ.out.fz 0
         have z3 := HQ.out.fz 1
         go_simp
         refine hK _ _ (.inl (by kernel_rfl)) ?_
         clear hK K z0 z1 z2 z3
         have HQZ := Lib.hid (show Blk ((ws.setCell ⟨q, 0, none⟩ (.int .i64 yc)).setCell ⟨q, 1, none⟩ (.int .i64 ys)) q 37 #[.int .i64 yc, .int .i64 ys] from (HQ.out.set 0 _).set 1 _)
         have HFZ := Lib.hid (show Fut wx ((ws.setCell ⟨q, 0, none⟩ (.int .i64 yc)).setCell ⟨q, 1, none⟩ (.int .i64 ys)) from (HFS.out.setCell (p := ⟨q, 0, none⟩) HQL.out _).setCell (p := ⟨q, 1, none⟩) HQL.out _)
         generalize ((ws.setCell ⟨q, 0, none⟩ (.int .i64 yc)).setCell ⟨q, 1, none⟩ (.int .i64 ys)) = wz at *
         clear HQ HFS HQL
         refine wpF_nil ?_
         have HIZ := Lib.hid (HIX.out.go HFZ.out)
         clear HIX
         have t0 := cell_fut (HQZ.out.cell (i := 0) rfl)
         have t1 := cell_fut (HQZ.out.cell (i := 1) rfl)
         have t2 := cell_fut (HFZ.out.cell (y0 0 #[]))
         have t3 := cell_fut (HIZ.out.v.c hh9)
         have t4 := cell_fut (HIZ.out.v.s hh9)
         obtain ⟨zc, hzc⟩ : ∃ z, z = (V' h9).c := ⟨_, rfl⟩
         obtain ⟨zs, hzs⟩ : ∃ z, z = (V' h9).s := ⟨_, rfl⟩
         rw [← hzc] at t3
         rw [← hzs] at t4
         have HZ := Lib.hid (show V' h9 = ⟨zc, zs⟩ from by rw [hzc, hzs])
         clear hzc hzs
         go_wp2_with fail
         refine wp_region_M o_emendateref29_Solve_15 (by kernel_rfl) (by kernel_rfl) (by intro c a d v w h; cases d <;> exact h) ?_; unfold o_emendateref29_Solve_15
         iterate 6 (refine wpF_h rfl rfl (fun K hK => ?_); go_simp; refine hK _ _ ?_; clear hK K)
         refine wpF_o rfl rfl (fun K hK => ?_)
         go_simp
         go_at_call 27
         refine (rless_any ⟨yc, ys⟩ ⟨zc, zs⟩ _).mono ?_
         rintro r w9 ⟨rfl, hb9⟩
         have HF9 := Lib.hid (show Fut wz w9 from (Fut.refl wz).drew.trans hb9)
         refine hK _ _ (.inr hb9) ?_
         clear hK K hb9
         refine wpF_nil ?_
         have HI9 := Lib.hid (HIZ.out.go HF9.out)
         have t0 := HF9.out.cell (t0 0 #[])
         have t1 := HF9.out.cell (t1 0 #[])
         have t2 := HF9.out.cell (t2 0 #[])
         have t3 := HF9.out.cell (t3 0 #[])
         have t4 := HF9.out.cell (t4 0 #[])
         clear y0 y1 y2 y3 y4
         have g4 := World.rowIs.frozen HI9.out.v (h9 * 2)
         have g5 := World.rowIs.frozen HI9.out.v (h9 * 2 + 1)
         generalize hlb : ltV ⟨yc, ys⟩ ⟨zc, zs⟩ = lb
         have HLS := Lib.hid hlb
         clear hlb
         cases lb with
         | true =>
          go_wp2_with fail
          have hyok : okV ⟨yc, ys⟩ := by rw [HY.out]; exact ev_ok (HES.out _ HEM.out) HOK.out.1
          have hrk : rsum (upd V' h9 ⟨yc, ys⟩) N < rsum V' N := rsum_upd (rank_lt hyok (HOK.out.1 h9) (by rw [HZ.out]; exact HLS.out)) N hh9
          refine ⟨⟨j + 1, upd V' h9 ⟨yc, ys⟩, true, by omega, by go_num, rfl, Lib.hid (HI9.out.setV h9 ⟨yc, ys⟩), Lib.hid ⟨ok_upd HOK.out.1 hyok, ?_⟩, Lib.hid (.inl ⟨rfl, ?_⟩)⟩, by simp [intOf]; omega⟩
          ·
           have h8 := Above.step HES.out HOK.out.1 HOK.out.2 HEM.out
           rw [← HY.out] at h8
           exact h8
          ·
           rcases HD.out with ⟨_, h8⟩ | ⟨_, h8, _⟩
           ·
            omega
           ·
            rw [← h8]; exact hrk
         | false =>
          go_wp2_with fail
          refine ⟨⟨j + 1, V', mb, by omega, by go_num, rfl, HI9, HOK, Lib.hid ?_⟩, by simp [intOf]; omega⟩
          rcases HD.out with h8 | ⟨h7, h8, h6⟩
          ·
           exact .inl h8
          ·
           refine .inr ⟨h7, h8, fun i e hi he => ?_⟩
           by_cases hij : i = j
           ·
            subst hij
            rw [HEX.out] at he
            obtain rfl := Option.some.inj he
            have h5 := leV_of_not_lt HLS.out
            rw [← HZ.out, HY.out, h8] at h5
            exact h5
           ·
            exact h6 i e (by omega) he
       ·
        go_simp
        refine hK _ _ (.inr ((Fut.refl _).alloc _)) ?_
        clear hK K
        obtain ⟨q, hqq⟩ : ∃ q, q = wx.heap.size := ⟨_, rfl⟩
        rw [← hqq]
        have hq0 : Blk (wx.drew.alloc (.cells #[.int .i64 0, .int .i64 0] 37)) q 37 #[.int .i64 0, .int .i64 0] := by rw [hqq]; exact Blk.new wx.drew _ _
        have hql : wx.heap.size ≤ q := by omega
        clear hqq
        refine wpF_o rfl rfl (fun K hK => ?_)
        go_simp
        go_at_call 45
        refine (HTA.out _ (((Fut.refl wx).drew).alloc _)).mono ?_
        rintro r wt ⟨⟨TA, tc, rfl, hrd⟩, hbt⟩
        have hq1 := hq0.fut hbt
        have ht0 : Fut wx wt := (((Fut.refl wx).drew).alloc _).trans hbt
        refine hK _ _ (.inr hbt) ?_
        clear hK K hbt
        refine wpF_o rfl rfl (fun K hK => ?_)
        go_simp
        go_at_call 26
        refine (HCM.out _ _ _ (hrd)).mono ?_
        rintro r wc ⟨hr, hbc⟩
        rw [show comb xc ((xt.map Int.toNat).map V') = ⟨yc, ys⟩ from HY.out.symm] at hr
        subst hr
        have hc0 : Fut wx wc := (ht0).trans hbc
        refine hK _ _ (.inr hbc) ?_
        clear hK K
        have hq : Blk wc q 37 #[.int .i64 0, .int .i64 0] := hq1.fut hbc
        have hfs : Fut wx wc := hc0
        clear hc0 hrd ht0 hbc hq0 hq1
        have HQ := Lib.hid hq
        have HFS := Lib.hid hfs
        have HQL := Lib.hid hql
        clear hq hfs hql
        generalize wc = ws at *
        refine wpF_o rfl rfl (fun K hK => ?_)
        have z0 := HQ.out.cell (i := 0) rfl
        have z1 := HQ.out.cell (i := 1) rfl
        have z2 := HQ.out.fz 0
        have z3 := HQ.out.fz 1
        go_simp
        refine hK _ _ (.inl (by kernel_rfl)) ?_
        clear hK K z0 z1 z2 z3
        have HQZ := Lib.hid (show Blk ((ws.setCell ⟨q, 0, none⟩ (.int .i64 yc)).setCell ⟨q, 1, none⟩ (.int .i64 ys)) q 37 #[.int .i64 yc, .int .i64 ys] from (HQ.out.set 0 _).set 1 _)
        have HFZ := Lib.hid (show Fut wx ((ws.setCell ⟨q, 0, none⟩ (.int .i64 yc)).setCell ⟨q, 1, none⟩ (.int .i64 ys)) from (HFS.out.setCell (p := ⟨q, 0, none⟩) HQL.out _).setCell (p := ⟨q, 1, none⟩) HQL.out _)
        generalize ((ws.setCell ⟨q, 0, none⟩ (.int .i64 yc)).setCell ⟨q, 1, none⟩ (.int .i64 ys)) = wz at *
        clear HQ HFS HQL
        refine wpF_nil ?_
        have HIZ := Lib.hid (HIX.out.go HFZ.out)
        clear HIX
        have t0 := cell_fut (HQZ.out.cell (i := 0) rfl)
        have t1 := cell_fut (HQZ.out.cell (i := 1) rfl)
        have t2 := cell_fut (HFZ.out.cell (y0 0 #[]))
        have t3 := cell_fut (HIZ.out.v.c hh9)
        have t4 := cell_fut (HIZ.out.v.s hh9)
        obtain ⟨zc, hzc⟩ : ∃ z, z = (V' h9).c := ⟨_, rfl⟩
        obtain ⟨zs, hzs⟩ : ∃ z, z = (V' h9).s := ⟨_, rfl⟩
        rw [← hzc] at t3
        rw [← hzs] at t4
        have HZ := Lib.hid (show V' h9 = ⟨zc, zs⟩ from by rw [hzc, hzs])
        clear hzc hzs
        go_wp2_with fail
        refine wp_region_M o_emendateref29_Solve_15 (by kernel_rfl) (by kernel_rfl) (by intro c a d v w h; cases d <;> exact h) ?_; unfold o_emendateref29_Solve_15
        iterate 6 (refine wpF_h rfl rfl (fun K hK => ?_); go_simp; refine hK _ _ ?_; clear hK K)
        refine wpF_o rfl rfl (fun K hK => ?_)
        go_simp
        go_at_call 27
        refine (rless_any ⟨yc, ys⟩ ⟨zc, zs⟩ _).mono ?_
        rintro r w9 ⟨rfl, hb9⟩
        have HF9 := Lib.hid (show Fut wz w9 from (Fut.refl wz).drew.trans hb9)
        refine hK _ _ (.inr hb9) ?_
        clear hK K hb9
        refine wpF_nil ?_
        have HI9 := Lib.hid (HIZ.out.go HF9.out)
        have t0 := HF9.out.cell (t0 0 #[])
        have t1 := HF9.out.cell (t1 0 #[])
        have t2 := HF9.out.cell (t2 0 #[])
        have t3 := HF9.out.cell (t3 0 #[])
        have t4 := HF9.out.cell (t4 0 #[])
        clear y0 y1 y2 y3 y4
        have g4 := World.rowIs.frozen HI9.out.v (h9 * 2)
        have g5 := World.rowIs.frozen HI9.out.v (h9 * 2 + 1)
        generalize hlb : ltV ⟨yc, ys⟩ ⟨zc, zs⟩ = lb
        have HLS := Lib.hid hlb
        clear hlb
        cases lb with
        | true =>
         go_wp2_with fail
         have hyok : okV ⟨yc, ys⟩ := by rw [HY.out]; exact ev_ok (HES.out _ HEM.out) HOK.out.1
         have hrk : rsum (upd V' h9 ⟨yc, ys⟩) N < rsum V' N := rsum_upd (rank_lt hyok (HOK.out.1 h9) (by rw [HZ.out]; exact HLS.out)) N hh9
         refine ⟨⟨j + 1, upd V' h9 ⟨yc, ys⟩, true, by omega, by go_num, rfl, Lib.hid (HI9.out.setV h9 ⟨yc, ys⟩), Lib.hid ⟨ok_upd HOK.out.1 hyok, ?_⟩, Lib.hid (.inl ⟨rfl, ?_⟩)⟩, by simp [intOf]; omega⟩
         ·
          have h8 := Above.step HES.out HOK.out.1 HOK.out.2 HEM.out
          rw [← HY.out] at h8
          exact h8
         ·
          rcases HD.out with ⟨_, h8⟩ | ⟨_, h8, _⟩
          ·
           omega
          ·
           rw [← h8]; exact hrk
        | false =>
         go_wp2_with fail
         refine ⟨⟨j + 1, V', mb, by omega, by go_num, rfl, HI9, HOK, Lib.hid ?_⟩, by simp [intOf]; omega⟩
         rcases HD.out with h8 | ⟨h7, h8, h6⟩
         ·
          exact .inl h8
         ·
          refine .inr ⟨h7, h8, fun i e hi he => ?_⟩
          by_cases hij : i = j
          ·
           subst hij
           rw [HEX.out] at he
           obtain rfl := Option.some.inj he
           have h5 := leV_of_not_lt HLS.out
           rw [← HZ.out, HY.out, h8] at h5
           exact h5
          ·
           exact h6 i e (by omega) he
      ·
       have hjn : j = n := by omega
       have hall := HD.out
       have HJ := Lib.hid hjn
       have g1 := HI.out.h1
       clear hall hjn
       go_wp2_with fail
       refine ⟨⟨V', mb, rfl, HI, HOK, Lib.hid (fun hm => ?_)⟩, ?_⟩
       ·
        rcases HD.out with ⟨h8, _⟩ | ⟨_, h8, h6⟩
        ·
         rw [hm] at h8; cases h8
        ·
         intro e he
         obtain ⟨i, hi⟩ := List.getElem?_of_mem he
         have hil := (List.getElem?_eq_some_iff.1 hi).1
         rw [List.length_map, HL.out] at hil
         rw [h8]
         exact h6 i e (by rw [HJ.out]; exact hil) hi
       ·
        rw [rankW_eq HI.out.v N (Nat.le_refl _), rankW_eq HIo.out.v N (Nat.le_refl _)]
        rcases HD.out with ⟨h8, h7⟩ | ⟨h8, h7, _⟩
        ·
         subst h8; simp only [bN]; omega
        ·
         subst h8; rw [h7]; simp only [bN]; omega
    | false =>
     have HSOL := Lib.hid (show Sol (EEs es) V from ⟨HOKo.out.1, HCL.out rfl, HOKo.out.2⟩)
     have g1 := HIo.out.h1
     have HOK := HOKo
     clear HOKo HCL
     go_wp2_with fail
     obtain ⟨wo, rfl⟩ : ∃ x, x = wr := ⟨_, rfl⟩
     clear g1
     go_loopw [11] (fun k wr => ∃ j : Nat, j ≤ n ∧ k = .int .i64 ((j : Int) - 1) ∧ Hid (RS w b N n A c wr V (chL V ((EEs es).drop j) (j : Int)))) (fun k _ => (intOf k + 1).toNat)
     case atStart => exact ⟨n, Nat.le_refl _, rfl, Lib.hid (HIo.out.as (fun _ _ => rfl) (fun i _ => by rw [List.drop_of_length_le (by rw [List.length_map, HL.out]; exact Nat.le_refl _)]; rfl))⟩
     case round =>
      obtain ⟨j, hj, rfl, HI⟩ := hrel
      by_cases hj0 : j = 0
      ·
       subst hj0
       go_wp2_with fail
       go_ret2
       exact ⟨⟨V, b + 1, b + 1 + 1, rfl, HSOL.out, HI.out.v, HI.out.e, by have := HI.out.hb; omega, by have := HI.out.hb; omega⟩, HI.out.fut⟩
      ·
       obtain ⟨m, rfl⟩ : ∃ m, j = m + 1 := ⟨j - 1, by omega⟩
       rw [show ((m + 1 : Nat) : Int) - 1 = (m : Int) by omega]
       have hmn : m < n := by omega
       clear hj0
       obtain ⟨x, hx⟩ := get_lt HL.out (show m < n by omega)
       have hxm := List.mem_of_getElem? hx
       obtain ⟨x1, x2, x3, x4, x5⟩ := okE_parts (HVD.out x hxm)
       obtain ⟨b2, o2, rfl, hc⟩ := (HR.out.fut HI.out.fut).1 m x hx
       obtain ⟨ht, _⟩ := (HR.out.fut HI.out.fut).2 x hxm
       have htl := HTL.out x hxm
       obtain ⟨xh, xt, xc, xl0, xl1, xA, xk⟩ := x
       simp only at x1 x2 x3 x4 x5 htl ht
       obtain ⟨h9, rfl⟩ : ∃ h : Nat, xh = h := ⟨xh.toNat, by omega⟩
       have hh9 : h9 < N := by omega
       have c0 := hc 0 _ (by decide) rfl
       have c1 := hc 1 _ (by decide) rfl
       have c2 := hc 2 _ (by decide) rfl
       have c3 := hc 3 _ (by decide) rfl
       have c4 := hc 4 _ (by decide) rfl
       simp only [Nat.add_zero] at c0
       have g1 := HI.out.h1
       have htl63 : xt.length ≤ 9223372036854775807 := by omega
       have HX := Lib.hid hx
       have HT := Lib.hid ht
       have HXC := Lib.hid (show 0 ≤ xc ∧ xc ≤ INF from ⟨x3, x4⟩)
       have HX5 := Lib.hid x5
       have HEX := Lib.hid (show (EEs es)[m]? = some (toEE ⟨(h9 : Int), xt, xc, xl0, xl1, xA, xk⟩) from by rw [List.getElem?_map, hx]; rfl)
       have HEM := Lib.hid (show toEE ⟨(h9 : Int), xt, xc, xl0, xl1, xA, xk⟩ ∈ EEs es from List.mem_map.2 ⟨_, hxm, rfl⟩)
       clear hx hxm hc ht x5 x1 x2 x3 x4
       obtain ⟨y, hy⟩ : ∃ y, y = ev V (toEE ⟨(h9 : Int), xt, xc, xl0, xl1, xA, xk⟩) := ⟨_, rfl⟩
       obtain ⟨yc, ys⟩ := y
       have HY := Lib.hid hy
       clear hy
       have t3 := HI.out.v.c hh9
       have t4 := HI.out.v.s hh9
       obtain ⟨zc, hzc⟩ : ∃ z, z = (V h9).c := ⟨_, rfl⟩
       obtain ⟨zs, hzs⟩ : ∃ z, z = (V h9).s := ⟨_, rfl⟩
       rw [← hzc] at t3
       rw [← hzs] at t4
       have HZ := Lib.hid (show V h9 = ⟨zc, zs⟩ from by rw [hzc, hzs])
       clear hzc hzs
       go_wp2_with fail
       obtain ⟨eb, heb⟩ : ∃ eb, eb = wr.heap.size := ⟨_, rfl⟩
       rw [← heb]
       obtain ⟨wx, hwx⟩ : ∃ wx, wx = (wr.alloc (.cells #[.int .i64 (h9 : Int), .slice xA xt.length xk, .int .i64 xc, .int .i64 xl0, .int .i64 xl1] 49)).alloc (.cells #[.int .i64 zc, .int .i64 zs] 37) := ⟨_, rfl⟩
       have y0 : ∀ dd os, (fut wx dd os).cell? ⟨eb, 0, none⟩ = some (.int .i64 (h9 : Int)) := cell_fut (by rw [hwx, heb]; (repeat (first | exact (cell_al_new _ _ _ _ _ _ (by first | rfl | (simp only [World.size_alloc]))).trans rfl | refine (cell_al_old _ _ _ (by first | omega | (simp only [World.size_alloc]; omega))).trans ?_)))
       have y1 : ∀ dd os, (fut wx dd os).cell? ⟨eb, 1, none⟩ = some (.slice xA xt.length xk) := cell_fut (by rw [hwx, heb]; (repeat (first | exact (cell_al_new _ _ _ _ _ _ (by first | rfl | (simp only [World.size_alloc]))).trans rfl | refine (cell_al_old _ _ _ (by first | omega | (simp only [World.size_alloc]; omega))).trans ?_)))
       have y2 : ∀ dd os, (fut wx dd os).cell? ⟨eb, 2, none⟩ = some (.int .i64 xc) := cell_fut (by rw [hwx, heb]; (repeat (first | exact (cell_al_new _ _ _ _ _ _ (by first | rfl | (simp only [World.size_alloc]))).trans rfl | refine (cell_al_old _ _ _ (by first | omega | (simp only [World.size_alloc]; omega))).trans ?_)))
       have y3 : ∀ dd os, (fut wx dd os).cell? ⟨eb, 3, none⟩ = some (.int .i64 xl0) := cell_fut (by rw [hwx, heb]; (repeat (first | exact (cell_al_new _ _ _ _ _ _ (by first | rfl | (simp only [World.size_alloc]))).trans rfl | refine (cell_al_old _ _ _ (by first | omega | (simp only [World.size_alloc]; omega))).trans ?_)))
       have y4 : ∀ dd os, (fut wx dd os).cell? ⟨eb, 4, none⟩ = some (.int .i64 xl1) := cell_fut (by rw [hwx, heb]; (repeat (first | exact (cell_al_new _ _ _ _ _ _ (by first | rfl | (simp only [World.size_alloc]))).trans rfl | refine (cell_al_old _ _ _ (by first | omega | (simp only [World.size_alloc]; omega))).trans ?_)))
       have y5 : ∀ dd os, (fut wx dd os).cell? ⟨eb + 1, 0, none⟩ = some (.int .i64 zc) := cell_fut (by rw [hwx, heb]; (repeat (first | exact (cell_al_new _ _ _ _ _ _ (by first | rfl | (simp only [World.size_alloc]))).trans rfl | refine (cell_al_old _ _ _ (by first | omega | (simp only [World.size_alloc]; omega))).trans ?_)))
       have y6 : ∀ dd os, (fut wx dd os).cell? ⟨eb + 1, 1, none⟩ = some (.int .i64 zs) := cell_fut (by rw [hwx, heb]; (repeat (first | exact (cell_al_new _ _ _ _ _ _ (by first | rfl | (simp only [World.size_alloc]))).trans rfl | refine (cell_al_old _ _ _ (by first | omega | (simp only [World.size_alloc]; omega))).trans ?_)))
       have HIX := Lib.hid (show RS w b N n (some ⟨b2, o2, none⟩) c wx V (chL V ((EEs es).drop (m + 1)) ((m + 1 : Nat) : Int)) from by rw [hwx]; exact HI.out.go (((Fut.refl wr).alloc _).alloc _))
       have HTX := Lib.hid (show Rd1 wx xA (.int .i64 ·) xt from by rw [hwx]; exact HT.out.fut (((Fut.refl wr).alloc _).alloc _))
       rw [← hwx]
       clear hwx heb t3 t4
       have HTA := Lib.hid (fun w' (hf : Fut wx w') => rtails_any (b + 1) N V ⟨(h9 : Int), xt, xc, xl0, xl1, xA, xk⟩ w' (HIX.out.v.fut hf) (by omega) HX5.out (by simp only; omega) (HTX.out.fut hf))
       have HCM := Lib.hid (fun w' TA tc (hrd : RdS w' TA 2 encV ((xt.map Int.toNat).map V)) => rcombine_any xc TA xt.length tc ((xt.map Int.toNat).map V) w' (by rw [List.length_map, List.length_map]) (by unfold maxLen; omega) HXC.out (fun v hv => by
        obtain ⟨t, _, rfl⟩ := List.mem_map.1 hv
        exact HOK.out.1 t) hrd)
       have HAT := Lib.hid (fun i => chL_drop (V := V) HEX.out i)
       have HNE : Hid (∀ i, i ≠ h9 → att V i (toEE ⟨(h9 : Int), xt, xc, xl0, xl1, xA, xk⟩) = false) := Lib.hid (fun i hi => by simp only [att, toEE, Int.toNat_natCast, Bool.and_eq_false_iff, decide_eq_false_iff_not]; exact .inl (.inl (decide_eq_false (fun e => hi e.symm))))
       have HAE : Hid (att V h9 (toEE ⟨(h9 : Int), xt, xc, xl0, xl1, xA, xk⟩) = (decide (zc < INF) && decide ((⟨yc, ys⟩ : VV) = ⟨zc, zs⟩))) := Lib.hid (by simp only [att, toEE, Int.toNat_natCast, decide_true, Bool.true_and]; rw [HZ.out]; congr 2; rw [HY.out, ← HZ.out]; rfl)
       by_cases hfin : zc < 1099511627776
       ·
        refine wp_region_M o_emendateref29_Solve_23 (by kernel_rfl) (by kernel_rfl) (by intro c a d v w h; cases d <;> exact h) ?_; unfold o_emendateref29_Solve_23
        iterate 9 (refine wpF_h rfl rfl (fun K hK => ?_); go_simp; refine hK _ _ ?_; clear hK K)
        refine wpF_o rfl rfl (fun K hK => ?_)
        go_simp
        go_at_call 45
        refine (HTA.out _ ((Fut.refl wx).drew)).mono ?_
        rintro r wt ⟨⟨TA, tc, rfl, hrd⟩, hbt⟩
        have ht0 : Fut wx wt := ((Fut.refl wx).drew).trans hbt
        refine hK _ _ (.inr hbt) ?_
        clear hK K hbt
        refine wpF_o rfl rfl (fun K hK => ?_)
        go_simp
        go_at_call 26
        refine (HCM.out _ _ _ (hrd)).mono ?_
        rintro r wc ⟨hr, hbc⟩
        rw [show comb xc ((xt.map Int.toNat).map V) = ⟨yc, ys⟩ from HY.out.symm] at hr
        subst hr
        have hc0 : Fut wx wc := (ht0).trans hbc
        refine hK _ _ (.inr hbc) ?_
        clear hK K
        have HFC := Lib.hid hc0
        clear hc0 hrd ht0 hbc
        have hd : Hid (yc = zc ∧ ys = zs) ∨ (Hid (¬ ys = zs) ∧ Hid (yc = zc)) ∨ Hid (¬ yc = zc) := by
         by_cases h1 : yc = zc
         ·
          by_cases h2 : ys = zs
          ·
           exact .inl (Lib.hid ⟨h1, h2⟩)
          ·
           exact .inr (.inl ⟨Lib.hid h2, Lib.hid h1⟩)
         ·
          exact .inr (.inr (Lib.hid h1))
        rcases hd with hd | ⟨hd, hd2⟩ | hd
        ·
         have k1 : (yc = zc) = True := eq_true hd.out.1
         have k2 : (ys = zs) = True := eq_true hd.out.2
         have HA2 := Lib.hid (show att V h9 (toEE ⟨(h9 : Int), xt, xc, xl0, xl1, xA, xk⟩) = true from by rw [HAE.out, show decide (zc < INF) = true from decide_eq_true hfin, hd.out.1, hd.out.2]; simp)
         iterate 2 (refine wpF_h rfl rfl (fun K hK => ?_); go_simp; refine hK _ _ ?_; clear hK K)
         refine wpF_nil ?_
         have HIC := Lib.hid (HIX.out.go HFC.out)
         have t2 := HFC.out.cell (y0 0 #[])
         have g5 := World.rowIs.cell HIC.out.e hh9
         have g4 := World.rowIs.frozen HIC.out.e h9
         go_wp2_with fail
         refine ⟨⟨m, by omega, by go_num, Lib.hid ?_⟩, by simp [intOf]⟩
         refine (HIC.out.setE h9 (m : Int)).as (fun _ _ => rfl) (fun i _ => ?_)
         rw [HAT.out i]
         by_cases e : i = h9
         ·
          subst e; rw [HA2.out, upd_same]; simp
         ·
          rw [HNE.out i e, upd_other _ _ _ _ e]; simp
        ·
         have k1 : (yc = zc) = True := eq_true hd2.out
         have k2 : (ys = zs) = False := eq_false hd.out
         have HA2 := Lib.hid (show att V h9 (toEE ⟨(h9 : Int), xt, xc, xl0, xl1, xA, xk⟩) = false from by rw [HAE.out]; simp [hd.out])
         iterate 2 (refine wpF_h rfl rfl (fun K hK => ?_); go_simp; refine hK _ _ ?_; clear hK K)
         refine wpF_nil ?_
         go_wp2_with fail
         refine ⟨⟨m, by omega, by go_num, Lib.hid ?_⟩, by simp [intOf]⟩
         refine (HIX.out.go HFC.out).as (fun _ _ => rfl) (fun i _ => ?_)
         rw [HAT.out i]
         by_cases e : i = h9
         ·
          subst e; rw [HA2.out]; simp
         ·
          rw [HNE.out i e]; simp
        ·
         have k1 : (yc = zc) = False := eq_false hd.out
         have HA2 := Lib.hid (show att V h9 (toEE ⟨(h9 : Int), xt, xc, xl0, xl1, xA, xk⟩) = false from by rw [HAE.out]; simp [hd.out])
         iterate 2 (refine wpF_h rfl rfl (fun K hK => ?_); go_simp; refine hK _ _ ?_; clear hK K)
         refine wpF_nil ?_
         go_wp2_with fail
         refine ⟨⟨m, by omega, by go_num, Lib.hid ?_⟩, by simp [intOf]⟩
         refine (HIX.out.go HFC.out).as (fun _ _ => rfl) (fun i _ => ?_)
         rw [HAT.out i]
         by_cases e : i = h9
         ·
          subst e; rw [HA2.out]; simp
         ·
          rw [HNE.out i e]; simp
       ·
        have hat : att V h9 (toEE ⟨(h9 : Int), xt, xc, xl0, xl1, xA, xk⟩) = false := by
         rw [HAE.out]
         have : ¬ zc < INF := hfin
         simp [this]
        have HA2 := Lib.hid hat
        clear hat
        refine wp_region_M o_emendateref29_Solve_23 (by kernel_rfl) (by kernel_rfl) (by intro c a d v w h; cases d <;> exact h) ?_; unfold o_emendateref29_Solve_23
        iterate 4 (refine wpF_h rfl rfl (fun K hK => ?_); go_simp; refine hK _ _ ?_; clear hK K)
        iterate 5 (refine wpF_hs2 rfl rfl (fun K hK => ?_); go_simp; refine hK _ _ ?_; clear hK K)
        iterate 2 (refine wpF_os2 rfl rfl (fun K hK => ?_); go_simp; refine hK _ _ ?_; clear hK K)
        (refine wpF_hs2 rfl rfl (fun K hK => ?_); go_simp; refine hK _ _ ?_; clear hK K)
        (refine wpF_h rfl rfl (fun K hK => ?_); go_simp; refine hK _ _ ?_; clear hK K)
        refine wpF_nil ?_
        go_wp2_with fail
        refine ⟨⟨m, by omega, by go_num, Lib.hid ?_⟩, by simp [intOf]⟩
        refine (HIX.out.go (Fut.refl wx).drew).as (fun _ _ => rfl) (fun i _ => ?_)
        rw [HAT.out i]
        by_cases e : i = h9
        ·
         subst e; rw [HA2.out]; simp
        ·
         rw [HNE.out i e]; simp
end Go.Proofs.YtajbmdjlfniofaaDoor
/-
  A map keyed by numbers of which nothing is asked but that it is one: stores, entries, deletions succeed and leave a map.
-/
namespace Go.Proofs.YtajbmdjlfniofaaDoor
open Go.RowKit Go.Deep PK
open Go.ChangeMaps (setBlock heap_setBlock_same heap_setBlock_other)
open Go.MapKept
open Go.Maps (Keyed)
def MP (P : Program) (k : TypeId) (w : World) (b : Nat) : Prop := ∃ es clock, w.heap[b]? = some (.map es clock) ∧ Stamped es clock ∧ ∀ x ∈ es.toList, ∃ l, keyOf P k x.key = some l
section
variable {P : Program} {k t e : TypeId} {w w' : World} {b : Nat}
theorem MP.lt (h : MP P k w b) : b < w.heap.size := by
 obtain ⟨es, clock, hb, _⟩ := h
 exact (Array.getElem?_eq_some_iff.1 hb).1
theorem MP.of_block (h : MP P k w b) (e : w'.heap[b]? = w.heap[b]?) : MP P k w' b := by
 obtain ⟨es, clock, hb, r⟩ := h
 exact ⟨es, clock, e.trans hb, r⟩
theorem MP.fut (h : MP P k w b) (hf : Fut w w') : MP P k w' b := h.of_block (hf.block b h.lt)
theorem MP.setCell (h : MP P k w b) {a : Addr} (ha : b ≠ a.block) (u : Value) : MP P k (w.setCell a u) b := h.of_block (Go.RowKit.Below.heap_setCell w a u b ha)
theorem MP.made (w : World) (P : Program) (k : TypeId) : MP P k (w.alloc (.map #[] 0)) w.heap.size := ⟨#[], 0, (MapKept.heap_alloc w _).1, stamped_empty 0, by simp⟩
/-- m[k] = v -/
theorem MP.store (h : MP P k w b) (K : Keyed P k) (ht : P.underlying t = some (.map k e)) {key val : Value} {kl : Lit} (hkey : keyOf P k key = some kl) :
  ∃ w', (Instr.mapUpdate t (.map (some b)) key val).run P w = .ok () w' ∧ MP P k w' b ∧ w.mapTurned w' b := by
 obtain ⟨es, clock, hb, hs, hk⟩ := h
 rcases K.find w hkey es.toList hk with ⟨h1, h2⟩ | ⟨j, e0, h1, h2, h3⟩
 ·
  refine ⟨setBlock w b (.map (es.push ⟨key, val, clock⟩) (clock + 1)), ?_, ⟨_, _, heap_setBlock_same hb _, stamped_push hs h2, ?_⟩, ⟨es, clock, _, _, hb, rfl⟩⟩
  ·
   simp [Instr.mapUpdate, run_underlying ht, MapKept.run_getObj_map hb, K.check w false hkey, h1, MapKept.run_setObj_map _ hb, Result.andThen, setBlock]
  ·
   intro x hx
   simp only [Array.toList_push, List.mem_append, List.mem_singleton] at hx
   rcases hx with hx | rfl
   ·
    exact hk x hx
   ·
    exact ⟨_, hkey⟩
 ·
  have hj : es[j]? = some e0 := by simpa using h2
  refine ⟨setBlock w b (.map (es.modify j (fun e' => { e' with key := key, val := val })) clock), ?_, ⟨_, _, heap_setBlock_same hb _, stamped_modify hs j _ (fun _ _ => rfl) (fun x _ hx => ?_), ?_⟩, ⟨es, clock, _, _, hb, rfl⟩⟩
  ·
   simp [Instr.mapUpdate, run_underlying ht, MapKept.run_getObj_map hb, K.check w false hkey, h1, hj, h3, K.stays w hkey, MapKept.run_setObj_map _ hb, Result.andThen, setBlock]
  ·
   rw [hj] at hx
   obtain rfl := Option.some.inj hx
   exact h3.symm
  ·
   intro x hx
   rw [Array.toList_modify, ChangeMaps.modify_eq_set _ _ _ _ h2] at hx
   rcases List.mem_or_eq_of_mem_set hx with hx | rfl
   ·
    exact hk x hx
   ·
    exact ⟨_, hkey⟩
/-- delete -/
theorem MP.drop (h : MP P k w b) (K : Keyed P k) (ht : P.underlying t = some (.map k e)) {key : Value} {kl : Lit} (hkey : keyOf P k key = some kl) (ty : TypeId) :
  ∃ w', (Builtin.delete_ #[t, k] ty #[.map (some b), key]).run P w = .ok (.tuple #[]) w' ∧ MP P k w' b ∧ w.mapTurned w' b := by
 obtain ⟨es, clock, hb, hs, hk⟩ := h
 rcases K.find w hkey es.toList hk with ⟨h1, h2⟩ | ⟨j, e0, h1, h2, h3⟩
 ·
  refine ⟨setBlock w b (.map es clock), ?_, ⟨_, _, heap_setBlock_same hb _, hs, hk⟩, ⟨es, clock, _, _, hb, rfl⟩⟩
  simp [Builtin.delete_, run_underlying ht, MapKept.run_getObj_map hb, K.check w _ hkey, h1, MapKept.run_setObj_map _ hb, Result.andThen, setBlock]
 ·
  have hjs : j < es.size := by have := (List.getElem?_eq_some_iff.1 h2).1; simpa using this
  have hsub : (es.eraseIdxIfInBounds j).toList = es.toList.eraseIdx j := by
   unfold Array.eraseIdxIfInBounds
   rw [dif_pos hjs]
   simp
  refine ⟨setBlock w b (.map (es.eraseIdxIfInBounds j) clock), ?_, ⟨_, _, heap_setBlock_same hb _, stamped_erase hs j, ?_⟩, ⟨es, clock, _, _, hb, rfl⟩⟩
  ·
   simp [Builtin.delete_, run_underlying ht, MapKept.run_getObj_map hb, K.check w _ hkey, h1, MapKept.run_setObj_map _ hb, Result.andThen, setBlock]
  ·
   intro x hx
   rw [hsub] at hx
   exact hk x ((List.eraseIdx_sublist _ _).subset hx)
/-- an entry is come by, and a store into it then succeeds -/
theorem MP.entry (h : MP P k w b) (K : Keyed P k) (ht : P.underlying t = some (.map k e)) {z : Value} (hz : ∀ u : World, (zeroValue e).run P u = .ok z u) {key : Value} {kl : Lit} (hkey : keyOf P k key = some kl) :
  ∃ (v0 : Value) (st : Nat) (w1 : World), (Instr.mapEntry t (.map (some b)) key).run P w = .ok (.tuple #[v0, goInt st]) w1 ∧ MP P k w1 b ∧ w.mapTurned w1 b ∧
   ∀ (w2 : World) (val : Value), w2.heap[b]? = w1.heap[b]? → ∃ w3, (Instr.entryStore t (.map (some b)) (goInt st) val).run P w2 = .ok () w3 ∧ MP P k w3 b ∧ w2.mapTurned w3 b := by
 obtain ⟨es, clock, hb, hs, hk⟩ := h
 have key2 : ∀ (es1 : Array MapEntry) (clock1 : Nat) (j : Nat) (e0 : MapEntry), Stamped es1 clock1 → (∀ x ∈ es1.toList, ∃ l, keyOf P k x.key = some l) → es1.toList[j]? = some e0 →
   ∀ (w2 : World) (val : Value), w2.heap[b]? = some (.map es1 clock1) → ∃ w3, (Instr.entryStore t (.map (some b)) (goInt e0.born) val).run P w2 = .ok () w3 ∧ MP P k w3 b ∧ w2.mapTurned w3 b := by
  intro es1 clock1 j e0 hs1 hk1 hj w2 val hw2
  have hidx : es1.findIdx? (fun e => ((e.born : Nat) : Int) == ((e0.born : Nat) : Int)) = some j := by
   rw [WideElems.findIdx_arr]
   exact WideElems.findIdx_born hs1.2.1 hj
  refine ⟨setBlock w2 b (.map (es1.modify j (fun e => { e with val := val })) clock1), ?_, ⟨_, _, heap_setBlock_same hw2 _, stamped_modify hs1 j _ (fun _ _ => rfl) (fun _ _ _ => rfl), ?_⟩, ⟨es1, clock1, _, _, hw2, rfl⟩⟩
  ·
   simp [Instr.entryStore, MapKept.run_getObj_map hw2, asInt, asIntOf, goInt, hidx, MapKept.run_setObj_map _ hw2, Result.andThen, setBlock]
  ·
   intro x hx
   rw [Array.toList_modify, ChangeMaps.modify_eq_set _ _ _ _ hj] at hx
   rcases List.mem_or_eq_of_mem_set hx with hx | rfl
   ·
    exact hk1 x hx
   ·
    exact hk1 e0 (List.mem_of_getElem? hj)
 rcases K.find w hkey es.toList hk with ⟨h1, h2⟩ | ⟨j, e0, h1, h2, h3⟩
 ·
  have hs1 := stamped_push hs h2 (val := z)
  have hk1 : ∀ x ∈ (es.push ⟨key, z, clock⟩).toList, ∃ l, keyOf P k x.key = some l := by
   intro x hx
   simp only [Array.toList_push, List.mem_append, List.mem_singleton] at hx
   rcases hx with hx | rfl
   ·
    exact hk x hx
   ·
    exact ⟨_, hkey⟩
  refine ⟨z, clock, setBlock w b (.map (es.push ⟨key, z, clock⟩) (clock + 1)), ?_, ⟨_, _, heap_setBlock_same hb _, hs1, hk1⟩, ⟨es, clock, _, _, hb, rfl⟩, fun w2 val hw2 => ?_⟩
  ·
   simp [Instr.mapEntry, run_underlying ht, MapKept.run_getObj_map hb, K.check w false hkey, h1, hz, MapKept.run_setObj_map _ hb, Result.andThen, setBlock]
  ·
   exact key2 (es.push ⟨key, z, clock⟩) (clock + 1) es.size ⟨key, z, clock⟩ hs1 hk1 (by simp) w2 val (hw2.trans (heap_setBlock_same hb _))
 ·
  have hj : es[j]? = some e0 := by simpa using h2
  have hsame : es.modify j (fun e => { e with key := key }) = es := by
   apply Array.ext'
   rw [Array.toList_modify, ChangeMaps.modify_eq_set _ _ _ _ h2]
   have : ({ e0 with key := key } : MapEntry) = e0 := by rw [← h3]
   rw [this]
   exact WideElems.set_self _ _ _ h2
  refine ⟨e0.val, e0.born, setBlock w b (.map es clock), ?_, ⟨_, _, heap_setBlock_same hb _, hs, hk⟩, ⟨es, clock, _, _, hb, rfl⟩, fun w2 val hw2 => ?_⟩
  ·
   simp [Instr.mapEntry, run_underlying ht, MapKept.run_getObj_map hb, K.check w false hkey, h1, hj, h3, K.stays w hkey, hsame, MapKept.run_setObj_map _ hb, Result.andThen, setBlock]
  ·
   exact key2 es clock j e0 hs hk h2 w2 val (hw2.trans (heap_setBlock_same hb _))
end
/-! ### at the operation -/
abbrev MPi (w : World) (b : Nat) : Prop := MP Tryd.prog 3 w b
theorem klaw : Keyed Tryd.prog 3 := Maps.int_keyed Tryd.underlying3
theorem kzero (w : World) : (zeroValue 3).run Tryd.prog w = .ok (.int .i64 0) w := by kernel_rfl
theorem keyI {a : Int} (h0 : 0 ≤ a) (h1 : a ≤ 1000000000000) : keyOf Tryd.prog 3 (.int .i64 a) = some (.int .i64 a) :=
 Maps.keyOf_int_mk Tryd.underlying3 (by simp [Lit.wf, IntKind.min, IntKind.max, IntKind.signed, IntKind.bits]; omega)
section
variable {w : World} {o : Oper} {a : Act} {K : Act → World → Prop} {Q : Exit → Act → World → Prop} {b : Nat}
theorem wp_mput (m x v : Operand) (ho : o.op = .mapUpdate 98 m x v) (hm : a.eval m = .map (some b)) (hM : MPi w b) (key : Int) (hx : a.eval x = .int .i64 key) (h0 : 0 ≤ key) (h1 : key ≤ 1000000000000)
  (h : ∀ w', MPi w' b → w.grownBy w' (some b) → K (a.put o.dst undef) w') : o.wp Tryd.prog a w K Q := by
 obtain ⟨w', hrun, r1, r2⟩ := hM.store klaw Tryd.underlying98 (val := a.eval v) (keyI h0 h1)
 unfold Oper.wp
 simp [execOp, ho, hm, hx, hrun, Result.andThen]
 exact h w' r1 r2.grown
theorem wpList_mput {ops : Array Oper} {rest : List Oper} (hg : o.guard = none) (m x v : Operand) (ho : o.op = .mapUpdate 98 m x v) (hm : a.eval m = .map (some b)) (hM : MPi w b) (key : Int) (hx : a.eval x = .int .i64 key) (h0 : 0 ≤ key) (h1 : key ≤ 1000000000000)
  (h : ∀ w', MPi w' b → w.grownBy w' (some b) → wpList Tryd.prog ops Q rest (a.put o.dst undef) w') : wpList Tryd.prog ops Q (o :: rest) a w :=
 wpList_plain hg fun _ hK => wp_mput m x v ho hm hM key hx h0 h1 fun w' h2 h3 => hK _ _ (h w' h2 h3)
theorem wp_mdel (m x : Operand) (ho : o.op = .call { callee := .builtin .delete, args := #[m, x], argTypes := #[98, 3] }) (hm : a.eval m = .map (some b)) (hM : MPi w b) (key : Int) (hx : a.eval x = .int .i64 key) (h0 : 0 ≤ key) (h1 : key ≤ 1000000000000)
  (h : ∀ w', MPi w' b → w.grownBy w' (some b) → K (a.put o.dst (.tuple #[])) w') : o.wp Tryd.prog a w K Q := by
 obtain ⟨w', hrun, r1, r2⟩ := hM.drop klaw Tryd.underlying98 (keyI h0 h1) o.type
 unfold Oper.wp
 simp [execOp, ho, resolve, invoke, builtin, hm, hx, hrun, Result.andThen]
 exact h w' r1 r2.grown
/-- the entry, then the store: what the store asks is told as ES -/
def ES (w1 : World) (b st : Nat) : Prop := ∀ (w2 : World) (val : Value), w2.heap[b]? = w1.heap[b]? → ∃ w3, (Instr.entryStore 98 (.map (some b)) (goInt st) val).run Tryd.prog w2 = .ok () w3 ∧ MPi w3 b ∧ w2.mapTurned w3 b
theorem wp_ment (m x : Operand) (ho : o.op = .mapEntry 98 m x) (hm : a.eval m = .map (some b)) (hM : MPi w b) (key : Int) (hx : a.eval x = .int .i64 key) (h0 : 0 ≤ key) (h1 : key ≤ 1000000000000)
  (h : ∀ v0 st w', MPi w' b → w.grownBy w' (some b) → ES w' b st → K (a.put o.dst (.tuple #[v0, .int .i64 (st : Int)])) w') : o.wp Tryd.prog a w K Q := by
 obtain ⟨v0, st, w', hrun, r1, r2, r3⟩ := hM.entry klaw Tryd.underlying98 kzero (keyI h0 h1)
 unfold Oper.wp
 simp [execOp, ho, hm, hx, hrun, Result.andThen]
 exact h v0 st w' r1 r2.grown r3
theorem wp_mest (m s x : Operand) (ho : o.op = .entryStore 98 m s x) (hm : a.eval m = .map (some b)) (st : Nat) (hs : a.eval s = .int .i64 (st : Int)) (hE : ES w b st)
  (h : ∀ w', MPi w' b → w.grownBy w' (some b) → K (a.put o.dst undef) w') : o.wp Tryd.prog a w K Q := by
 obtain ⟨w', hrun, r1, r2⟩ := hE w (a.eval x) rfl
 unfold goInt at hrun
 unfold Oper.wp
 simp [execOp, ho, hm, hs, hrun, Result.andThen]
 exact h w' r1 r2.grown
end
end Go.Proofs.YtajbmdjlfniofaaDoor
/-
  The queue: how it lies in memory; before, swap.
-/
namespace Go.Proofs.YtajbmdjlfniofaaDoor
open Go.RowKit Go.Deep PK
attribute [local go_sem] Oper.lit Oper.litS fut_fut fut_drew World.cell?_alloc_some
attribute [local go_sem] World.frozen?_setCell
abbrev fless : Value := .func (.func 38) #[] #[]
def encN (e : EN) : List Value := [.int .i64 (e.n : Int), .int .i64 e.v.c, .int .i64 e.v.s, .int .i64 e.hd, .int .i64 e.tm]
theorem encN_len (e : EN) : (encN e).length = 5 := rfl
def entL (H : Nat → EN) (m : Nat) : List Value := ((List.range m).map H).flatMap encN
theorem entL_len (H : Nat → EN) (m : Nat) : (entL H m).length = m * 5 := by unfold entL; rw [flat_len encN 5 encN_len]; simp
theorem entL_get (H : Nat → EN) (m i t : Nat) (hi : i < m) (ht : t < 5) : (entL H m)[i * 5 + t]? = (encN (H i))[t]? := by
 unfold entL
 exact flat_get encN 5 encN_len _ i (H i) t (by rw [List.getElem?_map, List.getElem?_range hi]; rfl) ht
theorem entL_congr {H G : Nat → EN} {m : Nat} (h : ∀ i, i < m → H i = G i) : entL H m = entL G m := by
 unfold entL
 congr 1
 exact List.map_congr_left (fun i hi => h i (List.mem_range.1 hi))
theorem entL_succ (H : Nat → EN) (m : Nat) (e : EN) : entL (upd H m e) (m + 1) = entL H m ++ encN e := by
 unfold entL
 rw [List.range_succ, List.map_append, List.flatMap_append]
 congr 1
 ·
  exact entL_congr (fun i hi => upd_other _ _ _ _ (by omega))
 ·
  simp [upd_same]
theorem entL_take (H : Nat → EN) (m : Nat) : (entL H (m + 1)).take (m * 5) = entL H m := by
 have h := entL_succ H m (H m)
 rw [entL_congr (G := H) (fun i _ => by unfold upd; split <;> simp_all)] at h
 rw [h, List.take_left' (entL_len H m)]
def sets5 (l : List Value) (i : Nat) (e : EN) : List Value := ((((l.set (i * 5) (.int .i64 (e.n : Int))).set (i * 5 + 1) (.int .i64 e.v.c)).set (i * 5 + 2) (.int .i64 e.v.s)).set (i * 5 + 3) (.int .i64 e.hd)).set (i * 5 + 4) (.int .i64 e.tm)
theorem sets5_eq (H : Nat → EN) (m i : Nat) (e : EN) (hi : i < m) : sets5 (entL H m) i e = entL (upd H i e) m := by
 have hl := entL_len H m
 apply List.ext_getElem?
 intro k
 obtain ⟨q, r, hr, rfl⟩ : ∃ q r, r < 5 ∧ k = q * 5 + r := ⟨k / 5, k % 5, by omega, by omega⟩
 by_cases hq : q < m
 ·
  rw [entL_get _ m q r hq hr]
  unfold sets5
  by_cases e1 : q = i
  ·
   subst e1
   rw [upd_same]
   match r, hr with
   | 0, _ => simp [List.getElem?_set, hl, encN]; omega
   | 1, _ => simp [List.getElem?_set, hl, encN]; omega
   | 2, _ => simp [List.getElem?_set, hl, encN]; omega
   | 3, _ => simp [List.getElem?_set, hl, encN]; omega
   | 4, _ => simp [List.getElem?_set, hl, encN]; omega
  ·
   rw [upd_other _ _ _ _ e1, List.getElem?_set_ne (by omega), List.getElem?_set_ne (by omega), List.getElem?_set_ne (by omega), List.getElem?_set_ne (by omega), List.getElem?_set_ne (by omega)]
   exact entL_get H m q r hq hr
 ·
  rw [List.getElem?_eq_none (by unfold sets5; simp only [List.length_set, hl]; omega), List.getElem?_eq_none (by rw [entL_len]; omega)]
def set5 (w : World) (g i : Nat) (e : EN) : World := ((((w.setCell ⟨g, i * 5, none⟩ (.int .i64 (e.n : Int))).setCell ⟨g, i * 5 + 1, none⟩ (.int .i64 e.v.c)).setCell ⟨g, i * 5 + 2, none⟩ (.int .i64 e.v.s)).setCell ⟨g, i * 5 + 3, none⟩ (.int .i64 e.hd)).setCell ⟨g, i * 5 + 4, none⟩ (.int .i64 e.tm)
abbrev OwnN (w : World) (B : Nat) (v : Value) (H : Nat → EN) (m : Nat) : Prop := w.ownsRow B 105 5 v m (entL H m)
section
variable {w w' : World} {B g m cap : Nat} {H : Nat → EN} {v : Value}
theorem OwnN.set (h : OwnN w B (.slice (some ⟨g, 0, none⟩) m cap) H m) (i : Nat) (e : EN) (hi : i < m) : OwnN (set5 w g i e) B (.slice (some ⟨g, 0, none⟩) m cap) (upd H i e) m ∧ w.grownBy (set5 w g i e) (some g) := by
 have h1 := World.ownsRow.stored h (i * 5) (.int .i64 (e.n : Int))
 have h2 := h1.1.stored (i * 5 + 1) (.int .i64 e.v.c)
 have h3 := h2.1.stored (i * 5 + 2) (.int .i64 e.v.s)
 have h4 := h3.1.stored (i * 5 + 3) (.int .i64 e.hd)
 have h5 := h4.1.stored (i * 5 + 4) (.int .i64 e.tm)
 refine ⟨?_, World.grownBy.trans h1.2 (World.grownBy.trans h2.2 (World.grownBy.trans h3.2 (World.grownBy.trans h4.2 h5.2)))⟩
 have := h5.1
 rw [show ((((((entL H m).set (i * 5) (.int .i64 (e.n : Int))).set (i * 5 + 1) (.int .i64 e.v.c)).set (i * 5 + 2) (.int .i64 e.v.s)).set (i * 5 + 3) (.int .i64 e.hd)).set (i * 5 + 4) (.int .i64 e.tm)) = entL (upd H i e) m from sets5_eq H m i e hi] at this
 exact this
theorem OwnN.cut (h : OwnN w B (.slice (some ⟨g, 0, none⟩) (m + 1) cap) H (m + 1)) : OwnN w B (.slice (some ⟨g, 0, none⟩) m cap) H m := by
 obtain ⟨hl, ⟨hv, _⟩ | ⟨g', cap', cur, hv, h1, h2, h3, h4, h5, h6⟩⟩ := h
 ·
  simp at hv
 ·
  injection hv with e1 e2 e3
  injection e1 with e1
  injection e1 with e1 _ _
  subst e1 e3
  refine ⟨entL_len H m, .inr ⟨g, cap, cur, rfl, h1, h2, by omega, h4, h5, ?_⟩⟩
  have := congrArg (List.take (m * 5)) h6
  rw [entL_take, List.take_take, Nat.min_eq_left (by omega)] at this
  exact this
theorem OwnN.at (h : OwnN w B (.slice (some ⟨g, 0, none⟩) m cap) H m) {i : Nat} (hi : i < m) : w.cell? ⟨g, i * 5, none⟩ = some (.int .i64 ((H i).n : Int)) ∧ w.cell? ⟨g, i * 5 + 1, none⟩ = some (.int .i64 (H i).v.c) ∧ w.cell? ⟨g, i * 5 + 2, none⟩ = some (.int .i64 (H i).v.s) ∧ w.cell? ⟨g, i * 5 + 3, none⟩ = some (.int .i64 (H i).hd) ∧ w.cell? ⟨g, i * 5 + 4, none⟩ = some (.int .i64 (H i).tm) :=
 ⟨(World.ownsRow.cellAt h (i * 5) (by omega)).trans (entL_get H m i 0 hi (by decide)), (World.ownsRow.cellAt h (i * 5 + 1) (by omega)).trans (entL_get H m i 1 hi (by decide)), (World.ownsRow.cellAt h (i * 5 + 2) (by omega)).trans (entL_get H m i 2 hi (by decide)), (World.ownsRow.cellAt h (i * 5 + 3) (by omega)).trans (entL_get H m i 3 hi (by decide)), (World.ownsRow.cellAt h (i * 5 + 4) (by omega)).trans (entL_get H m i 4 hi (by decide))⟩
theorem OwnN.form (h : OwnN w B v H m) (hm : 0 < m) : ∃ g cap, v = .slice (some ⟨g, 0, none⟩) m cap ∧ B ≤ g ∧ g < w.heap.size ∧ m ≤ cap ∧ cap ≤ maxLen := by
 have h0 := h
 obtain ⟨_, ⟨_, hn⟩ | ⟨g, cap, cur, hv, h1, h2, h3, h4, _⟩⟩ := h
 ·
  omega
 ·
  exact ⟨g, cap, hv, h1, (Array.getElem?_eq_some_iff.1 h2).1, h3, h4⟩
end
/-- the queue at block qb, its map at mb, its heap's entries H in a row from block B on; nx: the next handle and time -/
structure QS (w : World) (qb mb B : Nat) (v : Value) (H : Nat → EN) (m nx : Nat) : Prop where
 q : Blk w qb 101 #[fless, v, .map (some mb), .int .i64 (nx : Int), .int .i64 (nx : Int)]
 mp : MPi w mb
 own : OwnN w B v H m
 qB : qb < B
 mB : mb < B
 sz : B ≤ w.heap.size
 hd : ∀ i, i < m → 0 ≤ (H i).hd ∧ (H i).hd < nx
 nx1 : nx ≤ 100000000000
 mx : m ≤ nx
theorem QS.ne {w : World} {qb mb B : Nat} {v : Value} {H : Nat → EN} {m nx : Nat} (h : QS w qb mb B v H m nx) : qb ≠ mb := by
 intro e
 obtain ⟨es, clock, hb, _⟩ := h.mp
 have := h.q
 unfold Blk at this
 rw [e, hb] at this
 cases this
/-- what the queue's own operations may write -/
def SQ (qb mb : Nat) (v : Value) (k : Nat) : Bool := k == qb || k == mb || v.ownBlock == some k
theorem QS.go {w w' : World} {qb mb B : Nat} {v : Value} {H : Nat → EN} {m nx : Nat} (h : QS w qb mb B v H m nx) (hf : Fut w w') : QS w' qb mb B v H m nx :=
 ⟨h.q.fut hf, h.mp.fut hf, World.ownsRow.kept (row := none) h.own ⟨hf.os, hf.tape, hf.output, hf.size, fun k hk _ => hf.block k hk⟩ (by
  cases hv : v.ownBlock with
  | none => exact .inl rfl
  | some k => exact .inr (by simp)), h.qB, h.mB, Nat.le_trans h.sz hf.size, h.hd, h.nx1, h.mx⟩
set_option maxHeartbeats 6400000 in
theorem before_any {w : World} {qb mb B : Nat} {v : Value} {H : Nat → EN} {m nx : Nat} (h : QS w qb mb B v H m nx) (i j : Nat) (hi : i < m) (hj : j < m) :
  Calls Tryd.prog 59 #[.pointer (some ⟨qb, 0, none⟩), .int .i64 (i : Int), .int .i64 (j : Int)] w fun r w' => r = .returned (.bool (bef (H i) (H j))) ∧ Below w.heap.size w w' := by
 have HQ := Lib.hid h
 obtain ⟨g, cap, rfl, hBg, hgl, hmc, hcap⟩ := h.own.form (by omega)
 have hm63 : m ≤ 9223372036854775807 := by have := h.nx1; have := h.mx; omega
 obtain ⟨i0, i1, i2, i3, i4⟩ := h.own.at hi
 obtain ⟨j0, j1, j2, j3, j4⟩ := h.own.at hj
 obtain ⟨xin, hxin⟩ : ∃ z, z = ((H i).n : Int) := ⟨_, rfl⟩
 obtain ⟨xic, hxic⟩ : ∃ z, z = (H i).v.c := ⟨_, rfl⟩
 obtain ⟨xis, hxis⟩ : ∃ z, z = (H i).v.s := ⟨_, rfl⟩
 obtain ⟨xih, hxih⟩ : ∃ z, z = (H i).hd := ⟨_, rfl⟩
 obtain ⟨xit, hxit⟩ : ∃ z, z = (H i).tm := ⟨_, rfl⟩
 obtain ⟨xjn, hxjn⟩ : ∃ z, z = ((H j).n : Int) := ⟨_, rfl⟩
 obtain ⟨xjc, hxjc⟩ : ∃ z, z = (H j).v.c := ⟨_, rfl⟩
 obtain ⟨xjs, hxjs⟩ : ∃ z, z = (H j).v.s := ⟨_, rfl⟩
 obtain ⟨xjh, hxjh⟩ : ∃ z, z = (H j).hd := ⟨_, rfl⟩
 obtain ⟨xjt, hxjt⟩ : ∃ z, z = (H j).tm := ⟨_, rfl⟩
 rw [← hxin] at i0
 rw [← hxic] at i1
 rw [← hxis] at i2
 rw [← hxih] at i3
 rw [← hxit] at i4
 rw [← hxjn] at j0
 rw [← hxjc] at j1
 rw [← hxjs] at j2
 rw [← hxjh] at j3
 rw [← hxjt] at j4
 have HVI := Lib.hid (show (H i).v = ⟨xic, xis⟩ from by rw [hxic, hxis])
 have HVJ := Lib.hid (show (H j).v = ⟨xjc, xjs⟩ from by rw [hxjc, hxjs])
 have HTI := Lib.hid hxit
 have HTJ := Lib.hid hxjt
 have HNI := Lib.hid hxin
 have HNJ := Lib.hid hxjn
 obtain ⟨S, hS⟩ : ∃ S : Nat → Bool, S = fun q => decide (w.heap.size ≤ q) := ⟨_, rfl⟩
 have hSl : ∀ q, q < w.heap.size → S q = false := fun q hq => by rw [hS]; exact decide_eq_false (by omega)
 have hSo : ∀ q, w.heap.size ≤ q → S q = true := fun q hq => by rw [hS]; exact decide_eq_true hq
 clear hS
 have x0 := cell_futS (h.q.cell (i := 0) rfl) (hSl _ h.q.lt)
 have x1 := cell_futS (h.q.cell (i := 1) rfl) (hSl _ h.q.lt)
 have a0 := cell_futS i0 (hSl _ hgl)
 have a1 := cell_futS i1 (hSl _ hgl)
 have a2 := cell_futS i2 (hSl _ hgl)
 have a3 := cell_futS i3 (hSl _ hgl)
 have a4 := cell_futS i4 (hSl _ hgl)
 have b0 := cell_futS j0 (hSl _ hgl)
 have b1 := cell_futS j1 (hSl _ hgl)
 have b2 := cell_futS j2 (hSl _ hgl)
 have b3 := cell_futS j3 (hSl _ hgl)
 have b4 := cell_futS j4 (hSl _ hgl)
 clear h hxin hxic hxis hxih hxit hxjn hxjc hxjs hxjh hxjt i0 i1 i2 i3 i4 j0 j1 j2 j3 j4 hBg hgl hmc hcap
 go_enter Tryd.func59, Tryd.ntmps59
 go_wp2_with fail
 refine wp_region_MG (relS S) o_pqueue_Queue_knuth_candidate_before_1 (by kernel_rfl) (by kernel_rfl) (by intro c a d v w h; cases d <;> exact h) ?_; unfold o_pqueue_Queue_knuth_candidate_before_1
 iterate 14 (refine wpS_h rfl rfl (fun K hK => ?_); go_simp; refine hK _ _ ?_; clear hK K)
 refine wpG_two' rfl rfl (fun K hK => ?_) (fun K hK => ?_)
 ·
  go_simp
  refine hK _ _ (.inr ((relS S).of_fut ((Fut.refl _).alloc _))) ?_
  clear hK K
  refine wpG_o rfl rfl (fun K hK => ?_)
  go_simp
  refine hK _ _ (.inr ((relS S).of_fut ((Fut.refl _).alloc _))) ?_
  clear hK K
  obtain ⟨p1, hp1⟩ : ∃ q, q = w.heap.size := ⟨_, rfl⟩
  obtain ⟨p2, hp2⟩ : ∃ q, q = w.heap.size + 1 := ⟨_, rfl⟩
  rw [← hp2, ← hp1]
  have HP1 := Lib.hid (show Blk (((w.alloc (.cells #[.int .i64 0, .int .i64 0, .int .i64 0, .int .i64 0, .int .i64 0] 105)).alloc (.cells #[.int .i64 0, .int .i64 0, .int .i64 0, .int .i64 0, .int .i64 0] 105)).drew) p1 105 #[.int .i64 0, .int .i64 0, .int .i64 0, .int .i64 0, .int .i64 0] from Blk.drew (Blk.alloc (by rw [hp1]; exact Blk.new w _ _) _))
  have HP2 := Lib.hid (show Blk (((w.alloc (.cells #[.int .i64 0, .int .i64 0, .int .i64 0, .int .i64 0, .int .i64 0] 105)).alloc (.cells #[.int .i64 0, .int .i64 0, .int .i64 0, .int .i64 0, .int .i64 0] 105)).drew) p2 105 #[.int .i64 0, .int .i64 0, .int .i64 0, .int .i64 0, .int .i64 0] from Blk.drew (heap_new' _ _ _ (by rw [hp2, World.size_alloc])))
  have HFS := Lib.hid (show Fut w (((w.alloc (.cells #[.int .i64 0, .int .i64 0, .int .i64 0, .int .i64 0, .int .i64 0] 105)).alloc (.cells #[.int .i64 0, .int .i64 0, .int .i64 0, .int .i64 0, .int .i64 0] 105)).drew) from (((Fut.refl w).alloc _).alloc _).drew)
  have HL1 := Lib.hid (show w.heap.size ≤ p1 from by omega)
  have HL2 := Lib.hid (show w.heap.size ≤ p2 from by omega)
  have HNE := Lib.hid (show p2 ≠ p1 from by omega)
  clear hp1 hp2
  generalize ((w.alloc (.cells #[.int .i64 0, .int .i64 0, .int .i64 0, .int .i64 0, .int .i64 0] 105)).alloc (.cells #[.int .i64 0, .int .i64 0, .int .i64 0, .int .i64 0, .int .i64 0] 105)).drew = ws at *
  refine wpG_o rfl rfl (fun K hK => ?_)
  have u0 := HP1.out.cell (i := 0) rfl
  have f0 := HP1.out.fz 0
  have u1 := HP1.out.cell (i := 1) rfl
  have f1 := HP1.out.fz 1
  have u2 := HP1.out.cell (i := 2) rfl
  have f2 := HP1.out.fz 2
  have u3 := HP1.out.cell (i := 3) rfl
  have f3 := HP1.out.fz 3
  have u4 := HP1.out.cell (i := 4) rfl
  have f4 := HP1.out.fz 4
  go_simp
  refine hK _ _ (.inr ((relS S).trans (futS_set _ _ _ (hSo _ HL1.out)) ((relS S).trans (futS_set _ _ _ (hSo _ HL1.out)) ((relS S).trans (futS_set _ _ _ (hSo _ HL1.out)) ((relS S).trans (futS_set _ _ _ (hSo _ HL1.out)) (futS_set _ _ _ (hSo _ HL1.out))))))) ?_
  clear hK K u0 f0 u1 f1 u2 f2 u3 f3 u4 f4
  have HR1 := Lib.hid (show Blk (((((ws.setCell ⟨p1, 0, none⟩ (.int .i64 xin)).setCell ⟨p1, 1, none⟩ (.int .i64 xic)).setCell ⟨p1, 2, none⟩ (.int .i64 xis)).setCell ⟨p1, 3, none⟩ (.int .i64 xih)).setCell ⟨p1, 4, none⟩ (.int .i64 xit)) p1 105 #[.int .i64 xin, .int .i64 xic, .int .i64 xis, .int .i64 xih, .int .i64 xit] from ((((HP1.out.set 0 _).set 1 _).set 2 _).set 3 _).set 4 _)
  have HR2 := Lib.hid (show Blk (((((ws.setCell ⟨p1, 0, none⟩ (.int .i64 xin)).setCell ⟨p1, 1, none⟩ (.int .i64 xic)).setCell ⟨p1, 2, none⟩ (.int .i64 xis)).setCell ⟨p1, 3, none⟩ (.int .i64 xih)).setCell ⟨p1, 4, none⟩ (.int .i64 xit)) p2 105 #[.int .i64 0, .int .i64 0, .int .i64 0, .int .i64 0, .int .i64 0] from ((((HP2.out.setOther (a := ⟨p1, 0, none⟩) HNE.out _).setOther (a := ⟨p1, 1, none⟩) HNE.out _).setOther (a := ⟨p1, 2, none⟩) HNE.out _).setOther (a := ⟨p1, 3, none⟩) HNE.out _).setOther (a := ⟨p1, 4, none⟩) HNE.out _)
  have HF2 := Lib.hid (show Fut w (((((ws.setCell ⟨p1, 0, none⟩ (.int .i64 xin)).setCell ⟨p1, 1, none⟩ (.int .i64 xic)).setCell ⟨p1, 2, none⟩ (.int .i64 xis)).setCell ⟨p1, 3, none⟩ (.int .i64 xih)).setCell ⟨p1, 4, none⟩ (.int .i64 xit)) from ((((HFS.out.setCell (p := ⟨p1, 0, none⟩) HL1.out _).setCell (p := ⟨p1, 1, none⟩) HL1.out _).setCell (p := ⟨p1, 2, none⟩) HL1.out _).setCell (p := ⟨p1, 3, none⟩) HL1.out _).setCell (p := ⟨p1, 4, none⟩) HL1.out _)
  generalize (((((ws.setCell ⟨p1, 0, none⟩ (.int .i64 xin)).setCell ⟨p1, 1, none⟩ (.int .i64 xic)).setCell ⟨p1, 2, none⟩ (.int .i64 xis)).setCell ⟨p1, 3, none⟩ (.int .i64 xih)).setCell ⟨p1, 4, none⟩ (.int .i64 xit)) = wt at *
  clear HP1 HP2 HFS
  refine wpG_o rfl rfl (fun K hK => ?_)
  have u0 := HR2.out.cell (i := 0) rfl
  have f0 := HR2.out.fz 0
  have u1 := HR2.out.cell (i := 1) rfl
  have f1 := HR2.out.fz 1
  have u2 := HR2.out.cell (i := 2) rfl
  have f2 := HR2.out.fz 2
  have u3 := HR2.out.cell (i := 3) rfl
  have f3 := HR2.out.fz 3
  have u4 := HR2.out.cell (i := 4) rfl
  have f4 := HR2.out.fz 4
  go_simp
  refine hK _ _ (.inr ((relS S).trans (futS_set _ _ _ (hSo _ HL2.out)) ((relS S).trans (futS_set _ _ _ (hSo _ HL2.out)) ((relS S).trans (futS_set _ _ _ (hSo _ HL2.out)) ((relS S).trans (futS_set _ _ _ (hSo _ HL2.out)) (futS_set _ _ _ (hSo _ HL2.out))))))) ?_
  clear hK K u0 f0 u1 f1 u2 f2 u3 f3 u4 f4
  have HT2 := Lib.hid (show Blk (((((wt.setCell ⟨p2, 0, none⟩ (.int .i64 xjn)).setCell ⟨p2, 1, none⟩ (.int .i64 xjc)).setCell ⟨p2, 2, none⟩ (.int .i64 xjs)).setCell ⟨p2, 3, none⟩ (.int .i64 xjh)).setCell ⟨p2, 4, none⟩ (.int .i64 xjt)) p2 105 #[.int .i64 xjn, .int .i64 xjc, .int .i64 xjs, .int .i64 xjh, .int .i64 xjt] from ((((HR2.out.set 0 _).set 1 _).set 2 _).set 3 _).set 4 _)
  have HT1 := Lib.hid (show Blk (((((wt.setCell ⟨p2, 0, none⟩ (.int .i64 xjn)).setCell ⟨p2, 1, none⟩ (.int .i64 xjc)).setCell ⟨p2, 2, none⟩ (.int .i64 xjs)).setCell ⟨p2, 3, none⟩ (.int .i64 xjh)).setCell ⟨p2, 4, none⟩ (.int .i64 xjt)) p1 105 #[.int .i64 xin, .int .i64 xic, .int .i64 xis, .int .i64 xih, .int .i64 xit] from ((((HR1.out.setOther (a := ⟨p2, 0, none⟩) (Ne.symm HNE.out) _).setOther (a := ⟨p2, 1, none⟩) (Ne.symm HNE.out) _).setOther (a := ⟨p2, 2, none⟩) (Ne.symm HNE.out) _).setOther (a := ⟨p2, 3, none⟩) (Ne.symm HNE.out) _).setOther (a := ⟨p2, 4, none⟩) (Ne.symm HNE.out) _)
  have HFZ := Lib.hid (show Fut w (((((wt.setCell ⟨p2, 0, none⟩ (.int .i64 xjn)).setCell ⟨p2, 1, none⟩ (.int .i64 xjc)).setCell ⟨p2, 2, none⟩ (.int .i64 xjs)).setCell ⟨p2, 3, none⟩ (.int .i64 xjh)).setCell ⟨p2, 4, none⟩ (.int .i64 xjt)) from ((((HF2.out.setCell (p := ⟨p2, 0, none⟩) HL2.out _).setCell (p := ⟨p2, 1, none⟩) HL2.out _).setCell (p := ⟨p2, 2, none⟩) HL2.out _).setCell (p := ⟨p2, 3, none⟩) HL2.out _).setCell (p := ⟨p2, 4, none⟩) HL2.out _)
  generalize (((((wt.setCell ⟨p2, 0, none⟩ (.int .i64 xjn)).setCell ⟨p2, 1, none⟩ (.int .i64 xjc)).setCell ⟨p2, 2, none⟩ (.int .i64 xjs)).setCell ⟨p2, 3, none⟩ (.int .i64 xjh)).setCell ⟨p2, 4, none⟩ (.int .i64 xjt)) = wz at *
  clear HR1 HR2 HF2 HL1 HL2 HNE
  refine wpG_nil ?_
  clear hSl hSo x0 x1 a0 a1 a2 a3 a4 b0 b1 b2 b3 b4
  have x0 := cell_fut ((HQ.out.q.fut HFZ.out).cell (i := 0) rfl)
  have a0 := cell_fut (HT1.out.cell (i := 0) rfl)
  have b0 := cell_fut (HT2.out.cell (i := 0) rfl)
  have a1 := cell_fut (HT1.out.cell (i := 1) rfl)
  have b1 := cell_fut (HT2.out.cell (i := 1) rfl)
  have a2 := cell_fut (HT1.out.cell (i := 2) rfl)
  have b2 := cell_fut (HT2.out.cell (i := 2) rfl)
  have a3 := cell_fut (HT1.out.cell (i := 3) rfl)
  have b3 := cell_fut (HT2.out.cell (i := 3) rfl)
  have a4 := cell_fut (HT1.out.cell (i := 4) rfl)
  have b4 := cell_fut (HT2.out.cell (i := 4) rfl)
  go_wp2_with fail
  refine wp_region_M o_pqueue_Queue_knuth_candidate_before_2 (by kernel_rfl) (by kernel_rfl) (by intro c a d v w h; cases d <;> exact h) ?_; unfold o_pqueue_Queue_knuth_candidate_before_2
  iterate 8 (refine wpF_h rfl rfl (fun K hK => ?_); go_simp; refine hK _ _ ?_; clear hK K)
  refine wpF_o rfl rfl (fun K hK => ?_)
  go_simp
  go_at_call 38
  refine (cless_any xin xjn ⟨xic, xis⟩ ⟨xjc, xjs⟩ _).mono ?_
  rintro r w1 ⟨rfl, hb1⟩
  refine hK _ _ (.inr hb1) ?_
  clear hK K
  obtain ⟨d1, o1, rfl⟩ := fut_of (show Fut wz w1 from (Fut.refl wz).drew.trans hb1)
  clear hb1
  refine wpF_nil ?_
  generalize hc1 : ltV ⟨xic, xis⟩ ⟨xjc, xjs⟩ = l1
  have HC1 := Lib.hid hc1
  clear hc1
  cases l1 with
  | true =>
   go_wp2_with fail
   go_ret
   refine ⟨?_, HFZ.out.trans (Fut.fut _ _ _)⟩
   rw [show bef (H i) (H j) = true from by unfold bef; rw [HVI.out, HVJ.out, HC1.out]; rfl]
   rfl
  | false =>
   go_wp2_with fail
   refine wp_region_M o_pqueue_Queue_knuth_candidate_before_4 (by kernel_rfl) (by kernel_rfl) (by intro c a d v w h; cases d <;> exact h) ?_; unfold o_pqueue_Queue_knuth_candidate_before_4
   iterate 8 (refine wpF_h rfl rfl (fun K hK => ?_); go_simp; refine hK _ _ ?_; clear hK K)
   refine wpF_o rfl rfl (fun K hK => ?_)
   go_simp
   go_at_call 38
   refine (cless_any xjn xin ⟨xjc, xjs⟩ ⟨xic, xis⟩ _).mono ?_
   rintro r w1 ⟨rfl, hb1⟩
   refine hK _ _ (.inr hb1) ?_
   clear hK K
   have hf1 : Fut wz w1 := (Fut.fut wz _ _).trans hb1
   clear hb1
   generalize hc2 : ltV ⟨xjc, xjs⟩ ⟨xic, xis⟩ = l2
   have HC2 := Lib.hid hc2
   clear hc2
   cases l2 with
   | true =>
    iterate 2 (refine wpF_h rfl rfl (fun K hK => ?_); go_simp; refine hK _ _ ?_; clear hK K)
    iterate 5 (refine wpF_hs2 rfl rfl (fun K hK => ?_); go_simp; refine hK _ _ ?_; clear hK K)
    iterate 2 (refine wpF_h rfl rfl (fun K hK => ?_); go_simp; refine hK _ _ ?_; clear hK K)
    refine wpF_nil ?_
    go_wp2_with fail
    go_ret
    refine ⟨?_, HFZ.out.trans hf1⟩
    rw [show bef (H i) (H j) = false from by unfold bef; rw [HVI.out, HVJ.out, HC1.out, HC2.out]; rfl]
    rfl
   | false =>
    iterate 9 (refine wpF_h rfl rfl (fun K hK => ?_); go_simp; refine hK _ _ ?_; clear hK K)
    refine wpF_nil ?_
    go_wp2_with fail
    go_ret
    refine ⟨?_, HFZ.out.trans hf1⟩
    rw [show bef (H i) (H j) = decide (xit < xjt) from by unfold bef; rw [HVI.out, HVJ.out, HC1.out, HC2.out, ← HTI.out, ← HTJ.out]; rfl]
    rfl
 ·
  go_simp
  refine hK _ _ (.inr ((relS S).of_fut ((Fut.refl _).alloc _))) ?_
  clear hK K
  refine wpG_o rfl rfl (fun K hK => ?_)
  go_simp
  refine hK _ _ (.inr ((relS S).of_fut ((Fut.refl _).alloc _))) ?_
  clear hK K
  obtain ⟨p2, hp2⟩ : ∃ q, q = w.heap.size := ⟨_, rfl⟩
  obtain ⟨p1, hp1⟩ : ∃ q, q = w.heap.size + 1 := ⟨_, rfl⟩
  rw [← hp1, ← hp2]
  have HP2 := Lib.hid (show Blk (((w.alloc (.cells #[.int .i64 0, .int .i64 0, .int .i64 0, .int .i64 0, .int .i64 0] 105)).alloc (.cells #[.int .i64 0, .int .i64 0, .int .i64 0, .int .i64 0, .int .i64 0] 105)).drew) p2 105 #[.int .i64 0, .int .i64 0, .int .i64 0, .int .i64 0, .int .i64 0] from Blk.drew (Blk.alloc (by rw [hp2]; exact Blk.new w _ _) _))
  have HP1 := Lib.hid (show Blk (((w.alloc (.cells #[.int .i64 0, .int .i64 0, .int .i64 0, .int .i64 0, .int .i64 0] 105)).alloc (.cells #[.int .i64 0, .int .i64 0, .int .i64 0, .int .i64 0, .int .i64 0] 105)).drew) p1 105 #[.int .i64 0, .int .i64 0, .int .i64 0, .int .i64 0, .int .i64 0] from Blk.drew (heap_new' _ _ _ (by rw [hp1, World.size_alloc])))
  have HFS := Lib.hid (show Fut w (((w.alloc (.cells #[.int .i64 0, .int .i64 0, .int .i64 0, .int .i64 0, .int .i64 0] 105)).alloc (.cells #[.int .i64 0, .int .i64 0, .int .i64 0, .int .i64 0, .int .i64 0] 105)).drew) from (((Fut.refl w).alloc _).alloc _).drew)
  have HL1 := Lib.hid (show w.heap.size ≤ p1 from by omega)
  have HL2 := Lib.hid (show w.heap.size ≤ p2 from by omega)
  have HNE := Lib.hid (show p2 ≠ p1 from by omega)
  clear hp1 hp2
  generalize ((w.alloc (.cells #[.int .i64 0, .int .i64 0, .int .i64 0, .int .i64 0, .int .i64 0] 105)).alloc (.cells #[.int .i64 0, .int .i64 0, .int .i64 0, .int .i64 0, .int .i64 0] 105)).drew = ws at *
  refine wpG_o rfl rfl (fun K hK => ?_)
  have u0 := HP1.out.cell (i := 0) rfl
  have f0 := HP1.out.fz 0
  have u1 := HP1.out.cell (i := 1) rfl
  have f1 := HP1.out.fz 1
  have u2 := HP1.out.cell (i := 2) rfl
  have f2 := HP1.out.fz 2
  have u3 := HP1.out.cell (i := 3) rfl
  have f3 := HP1.out.fz 3
  have u4 := HP1.out.cell (i := 4) rfl
  have f4 := HP1.out.fz 4
  go_simp
  refine hK _ _ (.inr ((relS S).trans (futS_set _ _ _ (hSo _ HL1.out)) ((relS S).trans (futS_set _ _ _ (hSo _ HL1.out)) ((relS S).trans (futS_set _ _ _ (hSo _ HL1.out)) ((relS S).trans (futS_set _ _ _ (hSo _ HL1.out)) (futS_set _ _ _ (hSo _ HL1.out))))))) ?_
  clear hK K u0 f0 u1 f1 u2 f2 u3 f3 u4 f4
  have HR1 := Lib.hid (show Blk (((((ws.setCell ⟨p1, 0, none⟩ (.int .i64 xin)).setCell ⟨p1, 1, none⟩ (.int .i64 xic)).setCell ⟨p1, 2, none⟩ (.int .i64 xis)).setCell ⟨p1, 3, none⟩ (.int .i64 xih)).setCell ⟨p1, 4, none⟩ (.int .i64 xit)) p1 105 #[.int .i64 xin, .int .i64 xic, .int .i64 xis, .int .i64 xih, .int .i64 xit] from ((((HP1.out.set 0 _).set 1 _).set 2 _).set 3 _).set 4 _)
  have HR2 := Lib.hid (show Blk (((((ws.setCell ⟨p1, 0, none⟩ (.int .i64 xin)).setCell ⟨p1, 1, none⟩ (.int .i64 xic)).setCell ⟨p1, 2, none⟩ (.int .i64 xis)).setCell ⟨p1, 3, none⟩ (.int .i64 xih)).setCell ⟨p1, 4, none⟩ (.int .i64 xit)) p2 105 #[.int .i64 0, .int .i64 0, .int .i64 0, .int .i64 0, .int .i64 0] from ((((HP2.out.setOther (a := ⟨p1, 0, none⟩) HNE.out _).setOther (a := ⟨p1, 1, none⟩) HNE.out _).setOther (a := ⟨p1, 2, none⟩) HNE.out _).setOther (a := ⟨p1, 3, none⟩) HNE.out _).setOther (a := ⟨p1, 4, none⟩) HNE.out _)
  have HF2 := Lib.hid (show Fut w (((((ws.setCell ⟨p1, 0, none⟩ (.int .i64 xin)).setCell ⟨p1, 1, none⟩ (.int .i64 xic)).setCell ⟨p1, 2, none⟩ (.int .i64 xis)).setCell ⟨p1, 3, none⟩ (.int .i64 xih)).setCell ⟨p1, 4, none⟩ (.int .i64 xit)) from ((((HFS.out.setCell (p := ⟨p1, 0, none⟩) HL1.out _).setCell (p := ⟨p1, 1, none⟩) HL1.out _).setCell (p := ⟨p1, 2, none⟩) HL1.out _).setCell (p := ⟨p1, 3, none⟩) HL1.out _).setCell (p := ⟨p1, 4, none⟩) HL1.out _)
  generalize (((((ws.setCell ⟨p1, 0, none⟩ (.int .i64 xin)).setCell ⟨p1, 1, none⟩ (.int .i64 xic)).setCell ⟨p1, 2, none⟩ (.int .i64 xis)).setCell ⟨p1, 3, none⟩ (.int .i64 xih)).setCell ⟨p1, 4, none⟩ (.int .i64 xit)) = wt at *
  clear HP1 HP2 HFS
  refine wpG_o rfl rfl (fun K hK => ?_)
  have u0 := HR2.out.cell (i := 0) rfl
  have f0 := HR2.out.fz 0
  have u1 := HR2.out.cell (i := 1) rfl
  have f1 := HR2.out.fz 1
  have u2 := HR2.out.cell (i := 2) rfl
  have f2 := HR2.out.fz 2
  have u3 := HR2.out.cell (i := 3) rfl
  have f3 := HR2.out.fz 3
  have u4 := HR2.out.cell (i := 4) rfl
  have f4 := HR2.out.fz 4
  go_simp
  refine hK _ _ (.inr ((relS S).trans (futS_set _ _ _ (hSo _ HL2.out)) ((relS S).trans (futS_set _ _ _ (hSo _ HL2.out)) ((relS S).trans (futS_set _ _ _ (hSo _ HL2.out)) ((relS S).trans (futS_set _ _ _ (hSo _ HL2.out)) (futS_set _ _ _ (hSo _ HL2.out))))))) ?_
  clear hK K u0 f0 u1 f1 u2 f2 u3 f3 u4 f4
  have HT2 := Lib.hid (show Blk (((((wt.setCell ⟨p2, 0, none⟩ (.int .i64 xjn)).setCell ⟨p2, 1, none⟩ (.int .i64 xjc)).setCell ⟨p2, 2, none⟩ (.int .i64 xjs)).setCell ⟨p2, 3, none⟩ (.int .i64 xjh)).setCell ⟨p2, 4, none⟩ (.int .i64 xjt)) p2 105 #[.int .i64 xjn, .int .i64 xjc, .int .i64 xjs, .int .i64 xjh, .int .i64 xjt] from ((((HR2.out.set 0 _).set 1 _).set 2 _).set 3 _).set 4 _)
  have HT1 := Lib.hid (show Blk (((((wt.setCell ⟨p2, 0, none⟩ (.int .i64 xjn)).setCell ⟨p2, 1, none⟩ (.int .i64 xjc)).setCell ⟨p2, 2, none⟩ (.int .i64 xjs)).setCell ⟨p2, 3, none⟩ (.int .i64 xjh)).setCell ⟨p2, 4, none⟩ (.int .i64 xjt)) p1 105 #[.int .i64 xin, .int .i64 xic, .int .i64 xis, .int .i64 xih, .int .i64 xit] from ((((HR1.out.setOther (a := ⟨p2, 0, none⟩) (Ne.symm HNE.out) _).setOther (a := ⟨p2, 1, none⟩) (Ne.symm HNE.out) _).setOther (a := ⟨p2, 2, none⟩) (Ne.symm HNE.out) _).setOther (a := ⟨p2, 3, none⟩) (Ne.symm HNE.out) _).setOther (a := ⟨p2, 4, none⟩) (Ne.symm HNE.out) _)
  have HFZ := Lib.hid (show Fut w (((((wt.setCell ⟨p2, 0, none⟩ (.int .i64 xjn)).setCell ⟨p2, 1, none⟩ (.int .i64 xjc)).setCell ⟨p2, 2, none⟩ (.int .i64 xjs)).setCell ⟨p2, 3, none⟩ (.int .i64 xjh)).setCell ⟨p2, 4, none⟩ (.int .i64 xjt)) from ((((HF2.out.setCell (p := ⟨p2, 0, none⟩) HL2.out _).setCell (p := ⟨p2, 1, none⟩) HL2.out _).setCell (p := ⟨p2, 2, none⟩) HL2.out _).setCell (p := ⟨p2, 3, none⟩) HL2.out _).setCell (p := ⟨p2, 4, none⟩) HL2.out _)
  generalize (((((wt.setCell ⟨p2, 0, none⟩ (.int .i64 xjn)).setCell ⟨p2, 1, none⟩ (.int .i64 xjc)).setCell ⟨p2, 2, none⟩ (.int .i64 xjs)).setCell ⟨p2, 3, none⟩ (.int .i64 xjh)).setCell ⟨p2, 4, none⟩ (.int .i64 xjt)) = wz at *
  clear HR1 HR2 HF2 HL1 HL2 HNE
  refine wpG_nil ?_
  clear hSl hSo x0 x1 a0 a1 a2 a3 a4 b0 b1 b2 b3 b4
  have x0 := cell_fut ((HQ.out.q.fut HFZ.out).cell (i := 0) rfl)
  have a0 := cell_fut (HT1.out.cell (i := 0) rfl)
  have b0 := cell_fut (HT2.out.cell (i := 0) rfl)
  have a1 := cell_fut (HT1.out.cell (i := 1) rfl)
  have b1 := cell_fut (HT2.out.cell (i := 1) rfl)
  have a2 := cell_fut (HT1.out.cell (i := 2) rfl)
  have b2 := cell_fut (HT2.out.cell (i := 2) rfl)
  have a3 := cell_fut (HT1.out.cell (i := 3) rfl)
  have b3 := cell_fut (HT2.out.cell (i := 3) rfl)
  have a4 := cell_fut (HT1.out.cell (i := 4) rfl)
  have b4 := cell_fut (HT2.out.cell (i := 4) rfl)
  go_wp2_with fail
  refine wp_region_M o_pqueue_Queue_knuth_candidate_before_2 (by kernel_rfl) (by kernel_rfl) (by intro c a d v w h; cases d <;> exact h) ?_; unfold o_pqueue_Queue_knuth_candidate_before_2
  iterate 8 (refine wpF_h rfl rfl (fun K hK => ?_); go_simp; refine hK _ _ ?_; clear hK K)
  refine wpF_o rfl rfl (fun K hK => ?_)
  go_simp
  go_at_call 38
  refine (cless_any xin xjn ⟨xic, xis⟩ ⟨xjc, xjs⟩ _).mono ?_
  rintro r w1 ⟨rfl, hb1⟩
  refine hK _ _ (.inr hb1) ?_
  clear hK K
  obtain ⟨d1, o1, rfl⟩ := fut_of (show Fut wz w1 from (Fut.refl wz).drew.trans hb1)
  clear hb1
  refine wpF_nil ?_
  generalize hc1 : ltV ⟨xic, xis⟩ ⟨xjc, xjs⟩ = l1
  have HC1 := Lib.hid hc1
  clear hc1
  cases l1 with
  | true =>
   go_wp2_with fail
   go_ret
   refine ⟨?_, HFZ.out.trans (Fut.fut _ _ _)⟩
   rw [show bef (H i) (H j) = true from by unfold bef; rw [HVI.out, HVJ.out, HC1.out]; rfl]
   rfl
  | false =>
   go_wp2_with fail
   refine wp_region_M o_pqueue_Queue_knuth_candidate_before_4 (by kernel_rfl) (by kernel_rfl) (by intro c a d v w h; cases d <;> exact h) ?_; unfold o_pqueue_Queue_knuth_candidate_before_4
   iterate 8 (refine wpF_h rfl rfl (fun K hK => ?_); go_simp; refine hK _ _ ?_; clear hK K)
   refine wpF_o rfl rfl (fun K hK => ?_)
   go_simp
   go_at_call 38
   refine (cless_any xjn xin ⟨xjc, xjs⟩ ⟨xic, xis⟩ _).mono ?_
   rintro r w1 ⟨rfl, hb1⟩
   refine hK _ _ (.inr hb1) ?_
   clear hK K
   have hf1 : Fut wz w1 := (Fut.fut wz _ _).trans hb1
   clear hb1
   generalize hc2 : ltV ⟨xjc, xjs⟩ ⟨xic, xis⟩ = l2
   have HC2 := Lib.hid hc2
   clear hc2
   cases l2 with
   | true =>
    iterate 2 (refine wpF_h rfl rfl (fun K hK => ?_); go_simp; refine hK _ _ ?_; clear hK K)
    iterate 5 (refine wpF_hs2 rfl rfl (fun K hK => ?_); go_simp; refine hK _ _ ?_; clear hK K)
    iterate 2 (refine wpF_h rfl rfl (fun K hK => ?_); go_simp; refine hK _ _ ?_; clear hK K)
    refine wpF_nil ?_
    go_wp2_with fail
    go_ret
    refine ⟨?_, HFZ.out.trans hf1⟩
    rw [show bef (H i) (H j) = false from by unfold bef; rw [HVI.out, HVJ.out, HC1.out, HC2.out]; rfl]
    rfl
   | false =>
    iterate 9 (refine wpF_h rfl rfl (fun K hK => ?_); go_simp; refine hK _ _ ?_; clear hK K)
    refine wpF_nil ?_
    go_wp2_with fail
    go_ret
    refine ⟨?_, HFZ.out.trans hf1⟩
    rw [show bef (H i) (H j) = decide (xit < xjt) from by unfold bef; rw [HVI.out, HVJ.out, HC1.out, HC2.out, ← HTI.out, ← HTJ.out]; rfl]
    rfl
end Go.Proofs.YtajbmdjlfniofaaDoor
/-
  The queue: swap, up, down.
-/
namespace Go.Proofs.YtajbmdjlfniofaaDoor
open Go.RowKit Go.Deep PK
attribute [local go_sem] Oper.lit Oper.litS fut_fut fut_drew World.cell?_alloc_some
attribute [local go_sem] World.frozen?_setCell
theorem sq_g {qb mb g m cap : Nat} : SQ qb mb (.slice (some ⟨g, 0, none⟩) m cap) g = true := by simp [SQ, Value.ownBlock]
theorem sq_m {qb mb : Nat} {v : Value} : SQ qb mb v mb = true := by simp [SQ]
theorem sq_q {qb mb : Nat} {v : Value} : SQ qb mb v qb = true := by simp [SQ]
theorem futS_grown {S : Nat → Bool} {w w1 w2 : World} {b : Nat} (h : FutS S w w1) (hg : w1.grownBy w2 (some b)) (hb : S b = true) : FutS S w w2 :=
 h.grown hg (fun k hk => .inl (by cases hk; exact hb))
theorem QS.own' {w w1 w2 : World} {qb mb B : Nat} {v : Value} {H G : Nat → EN} {m nx : Nat} (h : QS w qb mb B v H m nx) (hf : Fut w w1) (hg : w1.grownBy w2 v.ownBlock) (ho : OwnN w2 B v G m) (hh : ∀ i, i < m → 0 ≤ (G i).hd ∧ (G i).hd < nx) : QS w2 qb mb B v G m nx := by
 have hlt : ∀ k, v.ownBlock = some k → B ≤ k := fun k hk => (World.ownsRow.lt h.own k hk).1
 have hne : ∀ b, b < B → some b ≠ v.ownBlock := fun b hb e => by have := hlt b e.symm; omega
 refine ⟨(h.q.fut hf).grown hg (hne _ h.qB), (h.mp.fut hf).of_block (hg.block mb (h.mp.fut hf).lt (hne _ h.mB)), ho, h.qB, h.mB, Nat.le_trans h.sz (Nat.le_trans hf.size hg.size), hh, h.nx1, h.mx⟩
/-- the map was turned -/
theorem QS.mapped {w w2 : World} {qb mb B : Nat} {v : Value} {H : Nat → EN} {m nx : Nat} (h : QS w qb mb B v H m nx) (hg : w.grownBy w2 (some mb)) (hm : MPi w2 mb) : QS w2 qb mb B v H m nx := by
 have hlt : ∀ k, v.ownBlock = some k → B ≤ k := fun k hk => (World.ownsRow.lt h.own k hk).1
 refine ⟨h.q.grown hg (fun e => h.ne (Option.some.inj e)), hm, World.ownsRow.kept h.own hg ?_, h.qB, h.mB, Nat.le_trans h.sz hg.size, h.hd, h.nx1, h.mx⟩
 cases hv : v.ownBlock with
 | none => exact .inl rfl
 | some k =>
  right
  intro e
  have := hlt k hv
  have := h.mB
  have := Option.some.inj e
  omega
set_option maxHeartbeats 6400000 in
set_option maxRecDepth 4000 in
theorem swap_any {w : World} {qb mb B : Nat} {v : Value} {H : Nat → EN} {m nx : Nat} (h : QS w qb mb B v H m nx) (i j : Nat) (hi : i < m) (hj : j < m) :
  Calls Tryd.prog 49 #[.pointer (some ⟨qb, 0, none⟩), .int .i64 (i : Int), .int .i64 (j : Int)] w fun r w' => r = .returned (.tuple #[]) ∧ QS w' qb mb B v (swp H i j) m nx ∧ FutS (SQ qb mb v) w w' := by
 have HQ := Lib.hid h
 obtain ⟨g, cap, rfl, hBg, hgl, hmc, hcap⟩ := h.own.form (by omega)
 have HBG := Lib.hid hBg
 have hm63 : m ≤ 9223372036854775807 := by have := h.nx1; have := h.mx; omega
 obtain ⟨i0, i1, i2, i3, i4⟩ := h.own.at hi
 obtain ⟨j0, j1, j2, j3, j4⟩ := h.own.at hj
 have x1 := cell_fut (h.q.cell (i := 1) rfl)
 have a0 := cell_fut i0
 have b0 := cell_fut j0
 have e0 := i0
 have f0 : w.frozen? ⟨g, i * 5, none⟩ = false := World.ownsRow.frozenAt h.own _
 have a1 := cell_fut i1
 have b1 := cell_fut j1
 have e1 := i1
 have f1 : w.frozen? ⟨g, i * 5 + 1, none⟩ = false := World.ownsRow.frozenAt h.own _
 have a2 := cell_fut i2
 have b2 := cell_fut j2
 have e2 := i2
 have f2 : w.frozen? ⟨g, i * 5 + 2, none⟩ = false := World.ownsRow.frozenAt h.own _
 have a3 := cell_fut i3
 have b3 := cell_fut j3
 have e3 := i3
 have f3 : w.frozen? ⟨g, i * 5 + 3, none⟩ = false := World.ownsRow.frozenAt h.own _
 have a4 := cell_fut i4
 have b4 := cell_fut j4
 have e4 := i4
 have f4 : w.frozen? ⟨g, i * 5 + 4, none⟩ = false := World.ownsRow.frozenAt h.own _
 have HO1 := Lib.hid (OwnN.set (w := w.drew) h.own i (H j) hi)
 clear h hBg hgl hmc hcap i0 i1 i2 i3 i4 j0 j1 j2 j3 j4
 go_enter Tryd.func49, Tryd.ntmps49
 go_wp2_with fail
 refine wp_region_M o_pqueue_Queue_knuth_candidate_swap_0 (by kernel_rfl) (by kernel_rfl) (by intro c a d v w h; cases d <;> exact h) ?_; unfold o_pqueue_Queue_knuth_candidate_swap_0
 iterate 25 (refine wpF_h rfl rfl (fun K hK => ?_); go_simp; refine hK _ _ ?_; clear hK K)
 refine wpF_ol rfl (by kernel_rfl) rfl (fun K hK => ?_)
 go_simp
 refine (show K _ (set5 w.drew g i (H j)) from hK _ _ ?_)
 clear hK K x1 a0 a1 a2 a3 a4 b0 b1 b2 b3 b4 e0 e1 e2 e3 e4 f0 f1 f2 f3 f4
 generalize set5 w.drew g i (H j) = w1 at *
 (refine wpF_h rfl rfl (fun K hK => ?_); go_simp; refine hK _ _ ?_; clear hK K)
 refine wpF_o rfl rfl (fun K hK => ?_)
 obtain ⟨j0, j1, j2, j3, j4⟩ := HO1.out.1.at hj
 have f0 : w1.frozen? ⟨g, j * 5, none⟩ = false := World.ownsRow.frozenAt HO1.out.1 _
 have f1 : w1.frozen? ⟨g, j * 5 + 1, none⟩ = false := World.ownsRow.frozenAt HO1.out.1 _
 have f2 : w1.frozen? ⟨g, j * 5 + 2, none⟩ = false := World.ownsRow.frozenAt HO1.out.1 _
 have f3 : w1.frozen? ⟨g, j * 5 + 3, none⟩ = false := World.ownsRow.frozenAt HO1.out.1 _
 have f4 : w1.frozen? ⟨g, j * 5 + 4, none⟩ = false := World.ownsRow.frozenAt HO1.out.1 _
 have HO2 := Lib.hid (HO1.out.1.set j (H i) hj)
 go_simp
 refine (show K _ (set5 w1 g j (H i)) from hK _ _ (.inl (by kernel_rfl)) ?_)
 clear hK K j0 j1 j2 j3 j4 f0 f1 f2 f3 f4
 generalize set5 w1 g j (H i) = w2 at *
 have HQ2 := Lib.hid (show QS w2 qb mb B (.slice (some ⟨g, 0, none⟩) m cap) (swp H i j) m nx from HQ.out.own' (Fut.refl w).drew (World.grownBy.trans HO1.out.2 HO2.out.2) HO2.out.1 (fun k hk => by
  by_cases e1 : k = j
  ·
   subst e1; rw [swp_right]; exact HQ.out.hd i hi
  ·
   by_cases e2 : k = i
   ·
    subst e2; rw [swp_left]; exact HQ.out.hd j hj
   ·
    rw [swp_other _ _ _ _ e2 e1]; exact HQ.out.hd k hk))
 have HF2 := Lib.hid (show FutS (SQ qb mb (.slice (some ⟨g, 0, none⟩) m cap)) w w2 from futS_grown (futS_grown (FutS.refl w).drew HO1.out.2 sq_g) HO2.out.2 sq_g)
 clear HO1 HO2 HQ
 refine wpF_nil ?_
 obtain ⟨S, hS⟩ : ∃ S : Nat → Bool, S = fun q => q == mb := ⟨_, rfl⟩
 have hSq : S qb = false := by rw [hS]; simp [HQ2.out.ne]
 have hSg : S g = false := by
  rw [hS]
  have := HQ2.out.mB
  have := HBG.out
  simp
  omega
 have HSM := Lib.hid (show S mb = true from by rw [hS]; simp)
 clear hS
 obtain ⟨i0, i1, i2, i3, i4⟩ := HQ2.out.own.at hi
 obtain ⟨j0, j1, j2, j3, j4⟩ := HQ2.out.own.at hj
 have x1 := cell_futS (HQ2.out.q.cell (i := 1) rfl) hSq
 have x2 := cell_futS (HQ2.out.q.cell (i := 2) rfl) hSq
 have a3 := cell_futS i3 hSg
 have b3 := cell_futS j3 hSg
 clear i0 i1 i2 i3 i4 j0 j1 j2 j3 j4 hSq hSg
 obtain ⟨ih, hih⟩ : ∃ z, z = (swp H i j i).hd := ⟨_, rfl⟩
 obtain ⟨jh, hjh⟩ : ∃ z, z = (swp H i j j).hd := ⟨_, rfl⟩
 rw [← hih] at a3
 rw [← hjh] at b3
 have HIH := Lib.hid (show 0 ≤ ih ∧ ih ≤ 1000000000000 from by have := HQ2.out.hd i hi; have := HQ2.out.nx1; rw [hih]; omega)
 have HJH := Lib.hid (show 0 ≤ jh ∧ jh ≤ 1000000000000 from by have := HQ2.out.hd j hj; have := HQ2.out.nx1; rw [hjh]; omega)
 clear hih hjh
 go_wp2_with fail
 refine wp_region_MG (relS S) o_pqueue_Queue_knuth_candidate_swap_1 (by kernel_rfl) (by kernel_rfl) (by intro c a d v w h; cases d <;> exact h) ?_; unfold o_pqueue_Queue_knuth_candidate_swap_1
 iterate 26 (refine wpS_h rfl rfl (fun K hK => ?_); go_simp; refine hK _ _ ?_; clear hK K)
 refine wpG_o rfl rfl (fun K hK => ?_)
 refine wp_ment (.tmp 35) (.tmp 43) rfl rfl (b := mb) HQ2.out.mp ih rfl HIH.out.1 HIH.out.2 ?_
 intro v3 st3 w3 hm3 hg3 hE3
 refine hK _ _ (.inr (FutS.grownS hg3 (fun k hk => by cases hk; exact HSM.out))) ?_
 clear hK K
 have HQ3 := Lib.hid ((HQ2.out.go (Fut.refl w2).drew).mapped hg3 hm3)
 have HF3 := Lib.hid (futS_grown HF2.out.drew hg3 sq_m)
 have HE3 := Lib.hid hE3
 clear hm3 hg3 hE3
 (refine wpS_h rfl rfl (fun K hK => ?_); go_simp; refine hK _ _ ?_; clear hK K)
 refine wpG_o rfl rfl (fun K hK => ?_)
 refine wp_mest (.tmp 35) (.tmp 59) (.tmp 56) rfl rfl st3 rfl HE3.out ?_
 intro w4 hm4 hg4
 refine hK _ _ (.inr (FutS.grownS hg4 (fun k hk => by cases hk; exact HSM.out))) ?_
 clear hK K
 have HQ4 := Lib.hid (HQ3.out.mapped hg4 hm4)
 have HF4 := Lib.hid (futS_grown HF3.out hg4 sq_m)
 clear hm4 hg4
 refine wpG_o rfl rfl (fun K hK => ?_)
 refine wp_ment (.tmp 47) (.tmp 55) rfl rfl (b := mb) HQ4.out.mp jh rfl HJH.out.1 HJH.out.2 ?_
 intro v5 st5 w5 hm5 hg5 hE5
 refine hK _ _ (.inr (FutS.grownS hg5 (fun k hk => by cases hk; exact HSM.out))) ?_
 clear hK K
 have HQ5 := Lib.hid (HQ4.out.mapped hg5 hm5)
 have HF5 := Lib.hid (futS_grown HF4.out hg5 sq_m)
 have HE5 := Lib.hid hE5
 clear hm5 hg5 hE5
 (refine wpS_h rfl rfl (fun K hK => ?_); go_simp; refine hK _ _ ?_; clear hK K)
 refine wpG_o rfl rfl (fun K hK => ?_)
 refine wp_mest (.tmp 47) (.tmp 61) (.tmp 57) rfl rfl st5 rfl HE5.out ?_
 intro w6 hm6 hg6
 refine hK _ _ (.inr (FutS.grownS hg6 (fun k hk => by cases hk; exact HSM.out))) ?_
 clear hK K
 have HQ6 := Lib.hid (HQ5.out.mapped hg6 hm6)
 have HF6 := Lib.hid (futS_grown HF5.out hg6 sq_m)
 clear hm6 hg6
 refine wpG_nil ?_
 go_wp2_with fail
 go_returns
 exact ⟨rfl, HQ6.out, HF6.out⟩
end Go.Proofs.YtajbmdjlfniofaaDoor
