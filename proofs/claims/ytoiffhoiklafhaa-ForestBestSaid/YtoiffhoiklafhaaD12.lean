/-
  The program's Best.
-/
import Derived.Test.YtoiffhoiklafhaaBH
import Derived.Test.YtoiffhoiklafhaaBE
import Derived.Test.YtoiffhoiklafhaaBG
import Derived.Test.YtoiffhoiklafhaaBF
namespace Go.Proofs.Ytoiffhoiklafhaa
open Go.RowKit Go.Deep PK
attribute [local go_sem] Oper.lit Oper.litS fut_fut fut_drew World.cell?_alloc_some
theorem best_res : Try.f30.results = #[.cell 4 36, .tmp 5] := by kernel_rfl
set_option maxHeartbeats 6400000 in
theorem best_gen (N : Int) (A : Option Addr) (n c : Nat) (es : List EI) (hl : es.length = n) (hn : n ≤ maxLen) (V : Nat → VV) (root : Int) (hSV : validB N es = true → n ≤ 1000000 ∧ (∀ e ∈ es, e.t.length ≤ 1000000) ∧ Sol (EEs es) V ∧ ((V root.toNat).c < INF → (V root.toNat).s < INF)) (w : World) (hR : RdE w A es) :
    Calls Try.prog 30 #[hv N A n c, .int .i64 root] w fun r w' => (∃ d e, r = .returned (.tuple #[dv d, .int .i64 e]) ∧ RdP (fun b => w.heap.size ≤ b) w' d ∧ BestR N es V root d e) ∧ Below w.heap.size w w' := by
  have HL := Lib.hid hl
  have HR := Lib.hid hR
  have HSV := Lib.hid hSV
  have hn63 : n ≤ 9223372036854775807 := hn
  have HN := Lib.hid hn
  clear hl hR hSV hn
  obtain ⟨wb, hwb⟩ : ∃ wb, wb = (w.alloc (.cells #[.int .i64 N, .slice A n c] 24)).alloc (.cells #[.int .i64 0, .slice none 0 0] 36) := ⟨_, rfl⟩
  have HF := Lib.hid (show Fut w wb from by rw [hwb]; exact ((Fut.refl w).alloc _).alloc _)
  have Q0 := Lib.hid (show wb.cell? ⟨w.heap.size, 0, none⟩ = some (.int .i64 N) from by rw [hwb]; (repeat (first | exact (cell_al_new _ _ _ _ _ _ (by first | rfl | (simp only [World.size_alloc]))).trans rfl | refine (cell_al_old _ _ _ (by first | omega | (simp only [World.size_alloc]; omega))).trans ?_)))
  have Q1 := Lib.hid (show wb.cell? ⟨w.heap.size, 1, none⟩ = some (.slice A n c) from by rw [hwb]; (repeat (first | exact (cell_al_new _ _ _ _ _ _ (by first | rfl | (simp only [World.size_alloc]))).trans rfl | refine (cell_al_old _ _ _ (by first | omega | (simp only [World.size_alloc]; omega))).trans ?_)))
  have HZ := Lib.hid (show Blk wb (w.heap.size + 1) 36 #[.int .i64 0, .slice none 0 0] from by rw [hwb]; exact heap_new' _ _ _ (by simp only [World.size_alloc]))
  go_enter Try.func30, Try.ntmps30
  go_wp2_with fail
  rw [← hwb]
  clear hwb
  refine (valid_any N A n c es _ HL.out HN.out (HR.out.fut HF.out)).mono ?_
  rintro r w1 ⟨rfl, hb⟩
  have f1 : Fut wb w1 := hb
  have HF1 := Lib.hid (HF.out.trans f1)
  have q0 := f1.cell Q0.out
  have q1 := f1.cell Q1.out
  have HZ1 := Lib.hid (HZ.out.fut f1)
  clear hb f1
  generalize hv9 : validB N es = bb
  have HV := Lib.hid hv9
  clear hv9
  cases bb with
  | false =>
    have g0 := HZ1.out.cell (i := 0) rfl
    have g1 := HZ1.out.cell (i := 1) rfl
    have g2 := HZ1.out.fz 0
    have g3 := HZ1.out.fz 1
    go_wp2_with fail
    refine bodyPost_ret (res_cell2 best_res _ _ (w.heap.size + 1) _ _ _ _ rfl ((HZ1.out.set 0 (.int .i64 0)).set 1 (.slice none 0 0)) Try.underlying36 rfl (by kernel_rfl)) rfl ?_
    exact ⟨⟨.node 0 none 0 [], 1, rfl, rdP_leaf, by unfold BestR; exact .inl ⟨HV.out, rfl, rfl⟩⟩, (HF1.out.setCell (p := ⟨w.heap.size + 1, 0, none⟩) (by simp only; omega) _).setCell (p := ⟨w.heap.size + 1, 1, none⟩) (by simp only; omega) _⟩
  | true =>
    obtain ⟨hn6, htl, hsol, hsz⟩ := HSV.out HV.out
    obtain ⟨hN1, hN2, _⟩ := validB_parts HV.out
    obtain ⟨M, rfl⟩ : ∃ M : Nat, N = M := ⟨N.toNat, by omega⟩
    have HSO := Lib.hid hsol
    have HSZ := Lib.hid hsz
    have HTL := Lib.hid htl
    have hM : M ≤ 1048576 := by omega
    clear hsol hsz htl hN1 hN2
    by_cases hr0 : root < 0
    · have g0 := HZ1.out.cell (i := 0) rfl
      have g1 := HZ1.out.cell (i := 1) rfl
      have g2 := HZ1.out.fz 0
      have g3 := HZ1.out.fz 1
      go_wp2_with fail
      refine bodyPost_ret (res_cell2 best_res _ _ (w.heap.size + 1) _ _ _ _ rfl ((HZ1.out.set 0 (.int .i64 0)).set 1 (.slice none 0 0)) Try.underlying36 rfl (by kernel_rfl)) rfl ?_
      exact ⟨⟨.node 0 none 0 [], 2, rfl, rdP_leaf, by unfold BestR; exact .inr (.inl ⟨HV.out, by omega, rfl, rfl⟩)⟩, (HF1.out.setCell (p := ⟨w.heap.size + 1, 0, none⟩) (by simp only; omega) _).setCell (p := ⟨w.heap.size + 1, 1, none⟩) (by simp only; omega) _⟩
    · by_cases hrN : (M : Int) ≤ root
      · have g0 := HZ1.out.cell (i := 0) rfl
        have g1 := HZ1.out.cell (i := 1) rfl
        have g2 := HZ1.out.fz 0
        have g3 := HZ1.out.fz 1
        go_wp2_with fail
        refine bodyPost_ret (res_cell2 best_res _ _ (w.heap.size + 1) _ _ _ _ rfl ((HZ1.out.set 0 (.int .i64 0)).set 1 (.slice none 0 0)) Try.underlying36 rfl (by kernel_rfl)) rfl ?_
        exact ⟨⟨.node 0 none 0 [], 2, rfl, rdP_leaf, by unfold BestR; exact .inr (.inl ⟨HV.out, by omega, rfl, rfl⟩)⟩, (HF1.out.setCell (p := ⟨w.heap.size + 1, 0, none⟩) (by simp only; omega) _).setCell (p := ⟨w.heap.size + 1, 1, none⟩) (by simp only; omega) _⟩
      · go_wp2_with fail
        refine (solve_any M A n c es _ HL.out hn6 HV.out HTL.out (HR.out.fut HF1.out)).mono ?_
        rintro r w2 ⟨⟨V', vb, eb, rfl, hs', hv', hi', _, _⟩, hb⟩
        obtain rfl := hs'.unique HSO.out
        obtain ⟨rt, rfl⟩ : ∃ rt : Nat, root = rt := ⟨root.toNat, by omega⟩
        have hrt : rt < M := by omega
        have f1 : Fut w1 w2 := hb
        have HF2 := Lib.hid (HF1.out.trans f1)
        replace q0 := f1.cell q0
        replace q1 := f1.cell q1
        have HZ2 := Lib.hid (HZ1.out.fut f1)
        have HI := Lib.hid hi'
        have cv := hv'.c hrt
        clear HZ1 hs' hv' hi' hb f1
        by_cases hinf : INF ≤ (V' rt).c
        · have hinf2 : (1099511627776 : Int) ≤ (V' rt).c := hinf
          have HI2 := Lib.hid hinf
          clear hinf
          have g0 := HZ2.out.cell (i := 0) rfl
          have g1 := HZ2.out.cell (i := 1) rfl
          have g2 := HZ2.out.fz 0
          have g3 := HZ2.out.fz 1
          go_wp2_with fail
          refine bodyPost_ret (res_cell2 best_res _ _ (w.heap.size + 1) _ _ _ _ rfl ((HZ2.out.set 0 (.int .i64 0)).set 1 (.slice none 0 0)) Try.underlying36 rfl (by kernel_rfl)) rfl ?_
          exact ⟨⟨.node 0 none 0 [], 6, rfl, rdP_leaf, by unfold BestR; exact .inr (.inr (.inl ⟨HV.out, by omega, by rw [Int.toNat_natCast]; exact HI2.out, rfl, rfl⟩))⟩, (HF2.out.setCell (p := ⟨w.heap.size + 1, 0, none⟩) (by simp only; omega) _).setCell (p := ⟨w.heap.size + 1, 1, none⟩) (by simp only; omega) _⟩
        · have hinf2 : ¬ (1099511627776 : Int) ≤ (V' rt).c := hinf
          have HI2 := Lib.hid (show (V' rt).c < INF by omega)
          have hsI : (V' rt).s < INF := by
            have := HSZ.out
            rw [Int.toNat_natCast] at this
            exact this HI2.out
          have HC := Lib.hid (follow_any M A n c es HL.out HN.out hM HV.out HTL.out V' HSO.out eb ((V' rt).s.toNat + 1) rt w2 hrt HI2.out hsI (by omega) (HR.out.fut HF2.out) HI.out)
          clear hinf hsI
          go_wp2_with fail
          refine HC.out.mono ?_
          rintro r w3 ⟨⟨d, rfl, hd, hrd⟩, hb⟩
          have f1 : Fut w2 w3 := hb
          have HF3 := Lib.hid (HF2.out.trans f1)
          have HZ3 := Lib.hid (HZ2.out.fut f1)
          have HD := Lib.hid hd
          have HRD := Lib.hid hrd
          have HW2 := Lib.hid (show w.heap.size + 2 ≤ w2.heap.size from by
            have := HZ2.out.lt
            omega)
          clear hb f1 hd hrd HC
          have g0 := HZ3.out.cell (i := 0) rfl
          have g1 := HZ3.out.cell (i := 1) rfl
          have g2 := HZ3.out.fz 0
          have g3 := HZ3.out.fz 1
          obtain ⟨de, dA, dc, dk⟩ := d
          simp only [dv, DI.e, DI.A, DI.c, DI.k]
          obtain ⟨dn, hdn⟩ : ∃ dn, dk.length = dn := ⟨_, rfl⟩
          rw [hdn]
          have HDN := Lib.hid hdn
          clear hdn
          go_wp2_with fail
          refine bodyPost_ret (res_cell2 best_res _ _ (w.heap.size + 1) _ _ _ _ rfl ((HZ3.out.set 0 (.int .i64 de)).set 1 (.slice dA dn dc)) Try.underlying36 rfl (by kernel_rfl)) rfl ?_
          refine ⟨⟨.node de dA dc dk, 0, by simp only [dv, DI.e, DI.A, DI.c, DI.k, HDN.out]; rfl, HRD.out.keep (fun b hb _ => ⟨?_, ?_⟩), by unfold BestR; exact .inr (.inr (.inr ⟨HV.out, by omega, by rw [Int.toNat_natCast]; exact HI2.out, rfl, by rw [Int.toNat_natCast]; exact HD.out⟩))⟩, (HF3.out.setCell (p := ⟨w.heap.size + 1, 0, none⟩) (by simp only; omega) _).setCell (p := ⟨w.heap.size + 1, 1, none⟩) (by simp only; omega) _⟩
          · have hb' : w2.heap.size ≤ b := hb
            have h9 := HW2.out
            exact (blk_setCell_other _ _ _ _ (by simp only; omega)).trans (blk_setCell_other _ _ _ _ (by simp only; omega))
          · have hb' : w2.heap.size ≤ b := hb
            have h9 := HW2.out
            show w.heap.size ≤ b
            omega
theorem best_any (N : Int) (A : Option Addr) (n c : Nat) (es : List EI) (hl : es.length = n) (hn : n ≤ maxLen) (V : Nat → VV) (hSV : validB N es = true → smallB N es = true ∧ Sol (EEs es) V ∧ ∀ i, (V i).s ≤ 1000) (root : Int) (w : World) (hR : RdE w A es) :
    Calls Try.prog 30 #[hv N A n c, .int .i64 root] w fun r w' => (∃ d e, r = .returned (.tuple #[dv d, .int .i64 e]) ∧ RdP (fun b => w.heap.size ≤ b) w' d ∧ BestR N es V root d e) ∧ Below w.heap.size w w' := by
  refine best_gen N A n c es hl hn V root (fun hv => ?_) w hR
  obtain ⟨hsm, hS, hsz⟩ := hSV hv
  obtain ⟨_, h2, h3, _⟩ := smallB_parts hsm
  exact ⟨by omega, fun e he => Nat.le_trans (h3 e he) (by decide), hS, fun _ => Int.lt_of_le_of_lt (hsz root.toNat) (by unfold INF; decide)⟩
end Go.Proofs.Ytoiffhoiklafhaa
