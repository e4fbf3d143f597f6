/-
  Equal lists of columns, equal inputs: told to be the same.
-/
import Derived.Test.YtagmpbgidooibaaC13
namespace Go.Proofs.Ytagmpbgidooibaa
open Go.RowKit Go.Deep
attribute [local go_sem] Oper.lit Oper.litS fut_fut fut_drew World.cell?_alloc_some
theorem key_get {cs bs : List CC} (h : cs.map key = bs.map key) {j : Nat} {a : CC} (ha : cs[j]? = some a) : ∃ b, bs[j]? = some b ∧ key b = key a := by
  have h1 : (bs.map key)[j]? = some (key a) := by rw [← h, List.getElem?_map, ha]; rfl
  rw [List.getElem?_map] at h1
  obtain ⟨b, hb, e⟩ := Option.map_eq_some_iff.1 h1
  exact ⟨b, hb, e⟩
theorem key_len {cs bs : List CC} (h : cs.map key = bs.map key) : cs.length = bs.length := by
  have := congrArg List.length h
  simpa using this
set_option maxHeartbeats 3200000 in
theorem sameCols_eq (A B : Option Addr) (n c d : Nat) (cs bs : List CC) (w : World) (hl : cs.length = n) (hn : n ≤ maxLen) (hk : cs.map key = bs.map key) (hR : RdC w A cs) (hS : RdC w B bs) :
    Calls Try.prog 18 #[.slice A n c, .slice B n d] w fun e w' => e = .returned (.bool true) ∧ Below w.heap.size w w' := by
  have hn' : n ≤ 9223372036854775807 := hn
  have HR := Lib.hid hR
  have HS := Lib.hid hS
  have HL := Lib.hid hl
  have HK := Lib.hid hk
  clear hR hS hl hn hk
  go_enter Try.func18, Try.ntmps18
  go_wp2_with fail
  go_loopw [5] (fun i wr => ∃ j : Nat, j ≤ n ∧ i = .int .i64 j ∧ Hid (Fut w wr)) (fun i _ => n - (intOf i).toNat)
  case atStart => exact ⟨0, Nat.zero_le _, rfl, Lib.hid (Fut.refl _)⟩
  case round =>
    obtain ⟨j, hj, rfl, hF⟩ := hrel
    by_cases hlt : j < n
    · obtain ⟨x, hx⟩ := get_lt HL.out hlt
      obtain ⟨y, hy, he⟩ := key_get HK.out hx
      obtain ⟨b, o, rfl, hc1⟩ := HR.out.1 j x hx
      obtain ⟨b2, o2, rfl, hc2⟩ := HS.out.1 j y hy
      obtain ⟨rx, lx⟩ := HR.out.2 x (List.mem_of_getElem? hx)
      obtain ⟨ry, ly⟩ := HS.out.2 y (List.mem_of_getElem? hy)
      obtain ⟨kd, r, dd, xA, xk⟩ := x
      obtain ⟨kd2, r2, dd2, yA, yk⟩ := y
      simp only [key, Prod.mk.injEq] at he
      obtain ⟨rfl, rfl, rfl⟩ := he
      have f0 := cell_fut (hF.out.cell (hc1 0 _ (by decide) rfl))
      have f1 := cell_fut (hF.out.cell (hc1 1 _ (by decide) rfl))
      have f2 := cell_fut (hF.out.cell (hc1 2 _ (by decide) rfl))
      have g0 := cell_fut (hF.out.cell (hc2 0 _ (by decide) rfl))
      have g1 := cell_fut (hF.out.cell (hc2 1 _ (by decide) rfl))
      have g2 := cell_fut (hF.out.cell (hc2 2 _ (by decide) rfl))
      simp only [Nat.add_zero] at f0 g0
      have HSM := Lib.hid (fun w' h h2 => same_eq xA yA _ xk yk _ w' rfl lx h h2)
      have HRX := Lib.hid (rx.fut hF.out)
      have HRY := Lib.hid (ry.fut hF.out)
      clear hx hy hc1 hc2 rx ry lx ly
      have e1 : ∀ z : Int, (z == z) = true := fun z => by simp
      have e2 : ∀ z : Int, (z != z) = false := fun z => by simp
      go_wp2_with fail
      refine wp_region_M o_emendateref35_SameColumns_6 (by kernel_rfl) (by kernel_rfl) (by intro c a d v w h; cases d <;> exact h) ?_; unfold o_emendateref35_SameColumns_6
      iterate 35 (refine wpF_h rfl rfl (fun K hK => ?_); go_simp; refine hK _ _ ?_; clear hK K)
      refine wpF_o rfl rfl (fun K hK => ?_)
      go_simp
      go_at_call 32
      refine (HSM.out _ (HRX.out.fut (Fut.refl _).drew) (HRY.out.fut (Fut.refl _).drew)).mono ?_
      rintro e w1 ⟨rfl, hb1⟩
      have hf2 : Fut wr w1 := (Fut.refl wr).drew.trans hb1
      refine hK _ _ (.inr hb1) ?_
      clear hK K
      have HF2 := Lib.hid (hF.out.trans hf2)
      clear hf2 hb1 f0 f1 f2 g0 g1 g2
      iterate 2 (refine wpF_h rfl rfl (fun K hK => ?_); go_simp; refine hK _ _ ?_; clear hK K)
      refine wpF_nil ?_
      go_wp2_with fail
      exact ⟨⟨j + 1, by omega, by go_num, HF2⟩, by simp [intOf]; omega⟩
    · go_wp2_with fail
      go_ret
      exact ⟨rfl, hF.out⟩
set_option maxHeartbeats 1600000 in
theorem same_any (A : Option Addr) (n c : Nat) (B : Option Addr) (m d : Nat) (s : Int) (A' : Option Addr) (c' : Nat) (B' : Option Addr) (d' : Nat) (cs bs : List CC) (ins : List Int) (w : World) (hl : cs.length = n) (hn : n ≤ maxLen) (hil : ins.length = m) (hm : m ≤ maxLen) (hk : cs.map key = bs.map key) (hR : RdC w A cs) (hS : RdC w A' bs) (hI : Rd1 w B (.int .i64 ·) ins) (hJ : Rd1 w B' (.int .i64 ·) ins) :
    Calls Try.prog 17 #[iv A n c B m d s, iv A' n c' B' m d' s] w fun e w' => e = .returned (.bool true) ∧ Below w.heap.size w w' := by
  have HW := Lib.hid (show Fut w ((w.alloc (.cells #[.slice A n c, .slice B m d, .int .i64 s] 25)).alloc (.cells #[.slice A' n c', .slice B' m d', .int .i64 s] 25)) from ((Fut.refl w).alloc _).alloc _)
  have HSI := Lib.hid (same_eq B B' m d d' ins _ hil hm (hI.fut HW.out) (hJ.fut HW.out))
  have HSC := Lib.hid (fun w' h1 h2 => sameCols_eq A A' n c c' cs bs w' hl hn hk h1 h2)
  have HR := Lib.hid (hR.fut HW.out)
  have HS := Lib.hid (hS.fut HW.out)
  clear hl hn hil hm hk hR hS hI hJ
  have q0 : ∀ dd os, (fut ((w.alloc (.cells #[.slice A n c, .slice B m d, .int .i64 s] 25)).alloc (.cells #[.slice A' n c', .slice B' m d', .int .i64 s] 25)) dd os).cell? ⟨w.heap.size, 0, none⟩ = some (.slice A n c) := cell_fut (by (repeat (first | exact (cell_al_new _ _ _ _ _ _ (by first | rfl | (simp only [World.size_alloc]))).trans rfl | refine (cell_al_old _ _ _ (by first | omega | (simp only [World.size_alloc]; omega))).trans ?_)))
  have q1 : ∀ dd os, (fut ((w.alloc (.cells #[.slice A n c, .slice B m d, .int .i64 s] 25)).alloc (.cells #[.slice A' n c', .slice B' m d', .int .i64 s] 25)) dd os).cell? ⟨w.heap.size + 1, 0, none⟩ = some (.slice A' n c') := cell_fut (by (repeat (first | exact (cell_al_new _ _ _ _ _ _ (by first | rfl | (simp only [World.size_alloc]))).trans rfl | refine (cell_al_old _ _ _ (by first | omega | (simp only [World.size_alloc]; omega))).trans ?_)))
  have e1 : ∀ z : Int, (z == z) = true := fun z => by simp
  go_enter Try.func17, Try.ntmps17
  go_wp2_with (first
    | (go_at_call 32; refine HSI.out.mono ?_; rintro e w1 ⟨rfl, hb1⟩; obtain ⟨dd, oo, rfl⟩ := fut_of hb1; clear hb1)
    | (go_at_call 18; refine (HSC.out _ (HR.out.fut (Fut.fut _ _ _)) (HS.out.fut (Fut.fut _ _ _))).mono ?_; rintro e w1 ⟨rfl, hb1⟩; have HB := Lib.hid hb1; clear hb1))
  go_ret
  exact ⟨rfl, HW.out.trans ((Fut.fut _ _ _).trans HB.out)⟩
end Go.Proofs.Ytagmpbgidooibaa
