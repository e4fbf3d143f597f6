/-
  The solver: offer.
-/
import Derived.Test.YtleapckcihcpaaaK11
namespace Go.Proofs.Ytleapckcihcpaaa
open Go.RowKit Go.Deep PK
attribute [local go_sem] Oper.lit Oper.litS fut_fut fut_drew World.cell?_alloc_some
theorem fut_base_drew (b : World) (d : Nat) (os : Array Obj) : fut b.drew d os = fut b d os := rfl
attribute [local go_sem] fut_base_drew
/-- the agenda as a list -/
def agL (H : Nat → EN) (m : Nat) : List (Nat × VV) := (List.range m).map (fun k => ((H k).n, (H k).v))
theorem mem_agL {H : Nat → EN} {m : Nat} {x : Nat × VV} : x ∈ agL H m ↔ ∃ k, k < m ∧ ((H k).n, (H k).v) = x := by
  unfold agL
  simp [List.mem_map]
theorem agL_of {H G : Nat → EN} {m l : Nat} {e : EN} (h : ∀ c, (∃ k, k < l ∧ G k = c) ↔ c = e ∨ ∃ k, k < m ∧ H k = c) (x : Nat × VV) : x ∈ agL G l ↔ x = (e.n, e.v) ∨ x ∈ agL H m := by
  rw [mem_agL, mem_agL]
  constructor
  · rintro ⟨k, hk, rfl⟩
    rcases (h (G k)).1 ⟨k, hk, rfl⟩ with h1 | ⟨j, hj, h1⟩
    · exact .inl (by rw [h1])
    · exact .inr ⟨j, hj, by rw [h1]⟩
  · rintro (rfl | ⟨k, hk, rfl⟩)
    · obtain ⟨k, hk, h1⟩ := (h e).2 (.inl rfl)
      exact ⟨k, hk, by rw [h1]⟩
    · obtain ⟨j, hj, h1⟩ := (h (H k)).2 (.inr ⟨k, hk, rfl⟩)
      exact ⟨j, hj, by rw [h1]⟩
/-- what an offer leaves of the agenda -/
def Off (V : Nat → VV) (T : Nat → Bool) (E : EE) (H : Nat → EN) (m nx : Nat) (H' : Nat → EN) (m' nx' : Nat) : Prop :=
  ((ev V E).c < INF ∧ T E.h = false ∧ nx' = nx + 1 ∧ m' = m + 1 ∧ ∀ x, x ∈ agL H' m' ↔ x = (E.h, ev V E) ∨ x ∈ agL H m) ∨ (¬ ((ev V E).c < INF ∧ T E.h = false) ∧ nx' = nx ∧ m' = m ∧ ∀ x, x ∈ agL H' m' ↔ x ∈ agL H m)
set_option maxHeartbeats 6400000 in
theorem offer_any {s : SB} {N n : Nat} {A : Option Addr} {c : Nat} {wr : World} {V : Nat → VV} {T : Nat → Bool} {O : Nat → Nat} {U : Nat → Value} {L : Nat → List Nat} {v : Value} {H : Nat → EN} {m nx : Nat} {es : List EI}
    (h1 : S1 s N n A c wr V T O U L) (hq : QS wr s.qb s.mb s.B v H m nx) (hh : HeapOK bef H m) (hnx : nx < 100000000000) (hN : N ≤ 1048576) (hV : ∀ u, okV (V u)) (hl : es.length = n) (hn : n ≤ 1000000) (hvd : ∀ e ∈ es, okE (N : Int) e = true) (htl : ∀ e ∈ es, e.t.length ≤ 1000000) (hR : RdE wr A es)
    (k : Nat) (E : EE) (hE : (EEs es)[k]? = some E) :
    Calls Try.prog 42 #[.pointer (some ⟨s.sb, 0, none⟩), .int .i64 (k : Int)] wr fun r w' => r = .returned (.tuple #[]) ∧ (∃ v' H' m' nx', QS w' s.qb s.mb s.B v' H' m' nx' ∧ HeapOK bef H' m' ∧ Off V T E H m nx H' m' nx') ∧ FutS (SQ s.qb s.mb v) wr w' := by
  have hk : k < n := by
    have := (List.getElem?_eq_some_iff.1 hE).1
    rw [List.length_map, hl] at this
    exact this
  obtain ⟨x, hx⟩ := get_lt hl hk
  have hxm := List.mem_of_getElem? hx
  obtain ⟨x1, x2, x3, x4, x5⟩ := okE_parts (hvd x hxm)
  obtain ⟨b2, o2, rfl, hc⟩ := hR.1 k x hx
  obtain ⟨ht, _⟩ := hR.2 x hxm
  have hxl := htl x hxm
  obtain ⟨xh, xt, xc, xl0, xl1, xA, xk⟩ := x
  simp only at x1 x2 x3 x4 x5 hxl ht
  obtain ⟨h9, rfl⟩ : ∃ h : Nat, xh = h := ⟨xh.toNat, by omega⟩
  have hh9 : h9 < N := by omega
  have hEE : E = toEE ⟨(h9 : Int), xt, xc, xl0, xl1, xA, xk⟩ := by
    rw [List.getElem?_map, hx] at hE
    exact (Option.some.inj hE).symm
  subst hEE
  have c0 := hc 0 _ (by decide) rfl
  have c1 := hc 1 _ (by decide) rfl
  have c2 := hc 2 _ (by decide) rfl
  have c3 := hc 3 _ (by decide) rfl
  have c4 := hc 4 _ (by decide) rfl
  simp only [Nat.add_zero] at c0
  have g1 := h1.sv.cell (i := 1) rfl
  have htl63 : xt.length ≤ 9223372036854775807 := by omega
  have hn63 : n ≤ 9223372036854775807 := by omega
  have H1 := Lib.hid h1
  have HQ := Lib.hid hq
  have HH := Lib.hid hh
  have HVk := Lib.hid hV
  have HXC := Lib.hid (show 0 ≤ xc ∧ xc ≤ INF from ⟨x3, x4⟩)
  have HX5 := Lib.hid x5
  obtain ⟨y, hy⟩ : ∃ y, y = ev V (toEE ⟨(h9 : Int), xt, xc, xl0, xl1, xA, xk⟩) := ⟨_, rfl⟩
  obtain ⟨yc, ys⟩ := y
  have HY := Lib.hid hy
  have HT := Lib.hid ht
  clear h1 hq hh hV hl hvd htl hR hE hx hxm hc ht x1 x2 x3 x4 x5 hy
  go_enter Try.func42, Try.ntmps42
  go_wp2_with fail
  have HF1 := Lib.hid (show Fut wr (wr.alloc (.cells #[.int .i64 (h9 : Int), .slice xA xt.length xk, .int .i64 xc, .int .i64 xl0, .int .i64 xl1] 59)) from (Fut.refl wr).alloc _)
  have HSC := Lib.hid (scomb_any s.sb s.vb N V ⟨(h9 : Int), xt, xc, xl0, xl1, xA, xk⟩ (wr.alloc (.cells #[.int .i64 (h9 : Int), .slice xA xt.length xk, .int .i64 xc, .int .i64 xl0, .int .i64 xl1] 59)) (HF1.out.cell (H1.out.sv.cell (i := 2) rfl)) (H1.out.v.fut HF1.out) hN HVk.out HXC.out HX5.out (by simp only; omega) (HT.out.fut HF1.out))
  obtain ⟨eb, heb⟩ : ∃ eb, eb = wr.heap.size := ⟨_, rfl⟩
  rw [← heb]
  have HB1 := Lib.hid (show Blk (wr.alloc (.cells #[.int .i64 (h9 : Int), .slice xA xt.length xk, .int .i64 xc, .int .i64 xl0, .int .i64 xl1] 59)) eb 59 #[.int .i64 (h9 : Int), .slice xA xt.length xk, .int .i64 xc, .int .i64 xl0, .int .i64 xl1] from by rw [heb]; exact Blk.new wr _ _)
  clear heb g1 c0 c1 c2 c3 c4
  generalize wr.alloc (.cells #[.int .i64 (h9 : Int), .slice xA xt.length xk, .int .i64 xc, .int .i64 xl0, .int .i64 xl1] 59) = wx at *
  refine HSC.out.mono ?_
  rintro r w1 ⟨hr, hb1⟩
  rw [← HY.out] at hr
  subst hr
  have HF2 := Lib.hid (show Fut wr (w1.alloc (.cells #[.int .i64 yc, .int .i64 ys] 40)) from (HF1.out.trans hb1).alloc _)
  obtain ⟨yb, hyb⟩ : ∃ yb, yb = w1.heap.size := ⟨_, rfl⟩
  have HYB := Lib.hid (show Blk (w1.alloc (.cells #[.int .i64 yc, .int .i64 ys] 40)) yb 40 #[.int .i64 yc, .int .i64 ys] from by rw [hyb]; exact Blk.new w1 _ _)
  have HB2 := Lib.hid ((HB1.out.fut hb1).alloc (.cells #[.int .i64 yc, .int .i64 ys] 40))
  clear HSC hb1
  go_wp2_with fail
  rw [← hyb]
  clear hyb
  generalize w1.alloc (.cells #[.int .i64 yc, .int .i64 ys] 40) = wy at *
  have HFY := HF2
  have HQY := Lib.hid (HQ.out.go HFY.out)
  have H1Y := Lib.hid (H1.out.go HFY.out)
  have y0 := cell_fut (HYB.out.cell (i := 0) rfl)
  have y1 := cell_fut (HYB.out.cell (i := 1) rfl)
  have e0 := cell_fut (HB2.out.cell (i := 0) rfl)
  have s3 := cell_fut (H1Y.out.sv.cell (i := 3) rfl)
  have s6 := cell_fut (H1Y.out.sv.cell (i := 6) rfl)
  have t0 := cell_fut (World.rowIs.cell H1Y.out.t hh9)
  obtain ⟨tv, htv⟩ : ∃ z, z = T h9 := ⟨_, rfl⟩
  rw [← htv] at t0
  have HTV := Lib.hid htv
  clear htv
  by_cases hfin : yc < 1099511627776
  · cases tv with
    | false =>
      refine wp_region_M o_knuth_solver_offer_2 (by kernel_rfl) (by kernel_rfl) (by intro c a d v w h; cases d <;> exact h) ?_; unfold o_knuth_solver_offer_2
      iterate 14 (refine wpF_h rfl rfl (fun K hK => ?_); go_simp; refine hK _ _ ?_; clear hK K)
      refine wpF_nil ?_
      go_wp2_with fail
      refine wp_region_M o_knuth_solver_offer_3 (by kernel_rfl) (by kernel_rfl) (by intro c a d v w h; cases d <;> exact h) ?_; unfold o_knuth_solver_offer_3
      iterate 8 (refine wpF_h rfl rfl (fun K hK => ?_); go_simp; refine hK _ _ ?_; clear hK K)
      refine wpF_ol rfl (by kernel_rfl) rfl (fun K hK => ?_)
      go_simp
      go_at_call 51
      refine (push_any (HQY.out.go ((Fut.refl wy).drew.drew)) HH.out hnx h9 ⟨yc, ys⟩).mono ?_
      rintro r w9 ⟨⟨u9, rfl⟩, ⟨v', H', p1, p2, p3⟩, p4⟩
      refine hK _ _ ?_
      clear hK K
      have HP := Lib.hid (And.intro p1 (And.intro p2 (And.intro p3 p4)))
      clear p1 p2 p3 p4
      refine wpF_nil ?_
      go_wp2_with fail
      go_returns
      refine ⟨rfl, ⟨v', H', m + 1, nx + 1, HP.out.1, HP.out.2.1, .inl ⟨?_, ?_, rfl, rfl, fun x => ?_⟩⟩, (FutS.of (HFY.out.trans (Fut.refl wy).drew.drew)).trans HP.out.2.2.2⟩
      · rw [← HY.out]; exact hfin
      · show T (Int.toNat (h9 : Int)) = false
        rw [Int.toNat_natCast]; exact HTV.out.symm
      · have h8 := agL_of HP.out.2.2.1 x
        rw [← HY.out]
        simpa [toEE] using h8
    | true =>
      refine wp_region_M o_knuth_solver_offer_2 (by kernel_rfl) (by kernel_rfl) (by intro c a d v w h; cases d <;> exact h) ?_; unfold o_knuth_solver_offer_2
      iterate 14 (refine wpF_h rfl rfl (fun K hK => ?_); go_simp; refine hK _ _ ?_; clear hK K)
      refine wpF_nil ?_
      have HFZ := Lib.hid (Fut.refl wy).drew
      go_wp2_with fail
      go_returns
      refine ⟨rfl, ⟨v, H, m, nx, HQY.out.go HFZ.out, HH.out, .inr ⟨?_, rfl, rfl, fun x => Iff.rfl⟩⟩, FutS.of (HFY.out.trans HFZ.out)⟩
      rintro ⟨_, h8⟩
      have h7 : T h9 = false := by simpa [toEE] using h8
      rw [← HTV.out] at h7
      cases h7
  · refine wp_region_M o_knuth_solver_offer_2 (by kernel_rfl) (by kernel_rfl) (by intro c a d v w h; cases d <;> exact h) ?_; unfold o_knuth_solver_offer_2
    iterate 4 (refine wpF_h rfl rfl (fun K hK => ?_); go_simp; refine hK _ _ ?_; clear hK K)
    iterate 9 (refine wpF_hs2 rfl rfl (fun K hK => ?_); go_simp; refine hK _ _ ?_; clear hK K)
    (refine wpF_h rfl rfl (fun K hK => ?_); go_simp; refine hK _ _ ?_; clear hK K)
    refine wpF_nil ?_
    have HFZ := Lib.hid (Fut.refl wy).drew
    go_wp2_with fail
    go_returns
    refine ⟨rfl, ⟨v, H, m, nx, HQY.out.go HFZ.out, HH.out, .inr ⟨?_, rfl, rfl, fun x => Iff.rfl⟩⟩, FutS.of (HFY.out.trans HFZ.out)⟩
    rintro ⟨h8, _⟩
    rw [← HY.out] at h8
    have h8' : yc < 1099511627776 := h8
    omega
end Go.Proofs.Ytleapckcihcpaaa
