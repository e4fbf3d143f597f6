/-
  Short of the reference; the size of a leaf.
-/
import Derived.Test.YtfaekfonemobcaaD11
namespace Go.Proofs.Ytfaekfonemobcaa
open Go.RowKit Go.Deep PK
attribute [local go_sem] Oper.lit Oper.litS fut_fut fut_drew World.cell?_alloc_some
theorem smallB_true {N : Int} {es : List EI} (h : smallB N es = true) : validB N es = true := (smallB_parts h).2.2.2
set_option maxHeartbeats 6400000 in
theorem short_any (N : Int) (A : Option Addr) (n c : Nat) (es : List EI) (hl : es.length = n) (hn : n ≤ maxLen) (w : World) (hR : RdE w A es) :
    Calls Try.prog 20 #[hv N A n c] w fun r w' => (∃ b, r = .returned (.bool b) ∧ (b = true → smallB N es = true ∧ ∃ V, Sol (EEs es) V ∧ ∀ i, (V i).s ≤ 1000)) ∧ Below w.heap.size w w' := by
  have HL := Lib.hid hl
  have HR := Lib.hid hR
  have hn63 : n ≤ 9223372036854775807 := hn
  have HN := Lib.hid hn
  clear hl hR hn
  obtain ⟨wb, hwb⟩ : ∃ wb, wb = w.alloc (.cells #[.int .i64 N, .slice A n c] 24) := ⟨_, rfl⟩
  have HF := Lib.hid (show Fut w wb from by rw [hwb]; exact (Fut.refl w).alloc _)
  have Q0 := Lib.hid (show wb.cell? ⟨w.heap.size, 0, none⟩ = some (.int .i64 N) from by rw [hwb]; (repeat (first | exact (cell_al_new _ _ _ _ _ _ (by first | rfl | (simp only [World.size_alloc]))).trans rfl | refine (cell_al_old _ _ _ (by first | omega | (simp only [World.size_alloc]; omega))).trans ?_)))
  have Q1 := Lib.hid (show wb.cell? ⟨w.heap.size, 1, none⟩ = some (.slice A n c) from by rw [hwb]; (repeat (first | exact (cell_al_new _ _ _ _ _ _ (by first | rfl | (simp only [World.size_alloc]))).trans rfl | refine (cell_al_old _ _ _ (by first | omega | (simp only [World.size_alloc]; omega))).trans ?_)))
  go_enter Try.func20, Try.ntmps20
  go_wp2_with fail
  rw [← hwb]
  clear hwb
  refine (small_any N A n c es _ HL.out HN.out (HR.out.fut HF.out)).mono ?_
  rintro r w1 ⟨rfl, hb⟩
  have f1 : Fut wb w1 := hb
  have HF1 := Lib.hid (HF.out.trans f1)
  have q0 := f1.cell Q0.out
  have q1 := f1.cell Q1.out
  clear hb f1
  generalize hv9 : smallB N es = bb
  have HV := Lib.hid hv9
  clear hv9
  cases bb with
  | false =>
    go_wp2_with fail
    go_ret
    exact ⟨⟨false, rfl, fun h => by cases h⟩, HF1.out⟩
  | true =>
    obtain ⟨m1, m2, m3, m4⟩ := smallB_parts HV.out
    have hN1 := (validB_parts m4).1
    obtain ⟨M, rfl⟩ : ∃ M : Nat, N = M := ⟨N.toNat, by omega⟩
    have HVD := Lib.hid m4
    have HTL := Lib.hid (fun e he => Nat.le_trans (m3 e he) (show 4 ≤ 1000000 by decide))
    have hn6 : n ≤ 1000000 := by
      rw [HL.out] at m2; omega
    have hM : M ≤ 30 := by omega
    clear m2 m3 m4 hN1
    go_wp2_with fail
    refine (rsolve_any M A n c es _ HL.out hn6 HVD.out HTL.out (HR.out.fut HF1.out)).mono ?_
    rintro r w2 ⟨⟨V, vb, eb, rfl, hs', hv', hi', _, _⟩, hb⟩
    have f1 : Fut w1 w2 := hb
    have HF2 := Lib.hid (HF1.out.trans f1)
    have HS := Lib.hid hs'
    have HRV := Lib.hid hv'
    clear q0 q1 hs' hv' hi' hb f1
    go_wp2_with fail
    go_loopw [5] (fun i wr => ∃ j : Nat, j ≤ M ∧ i = .int .i64 j ∧ Hid (∀ k, k < j → (V k).s ≤ 1000) ∧ Fut w2 wr) (fun i _ => M - (intOf i).toNat)
    case atStart => exact ⟨0, Nat.zero_le _, rfl, Lib.hid (fun k h => by omega), Fut.refl _⟩
    case round =>
      obtain ⟨j, hj, rfl, hall, hF⟩ := hrel
      have HF3 := Lib.hid hF
      by_cases hlt : j < M
      · have cs := hF.cell (HRV.out.s hlt)
        clear hF
        by_cases hsz : (1000 : Int) < (V j).s
        · go_wp2_with fail
          go_ret
          exact ⟨⟨false, rfl, fun h => by cases h⟩, HF2.out.trans HF3.out⟩
        · have HA := Lib.hid (show ∀ k, k < j + 1 → (V k).s ≤ 1000 from fun k hk => by
            by_cases e : k = j
            · subst e; omega
            · exact hall.out k (by omega))
          go_wp2_with fail
          exact ⟨⟨j + 1, by omega, by go_num, HA, HF3.out⟩, by simp [intOf]; omega⟩
      · clear hF
        go_wp2_with fail
        go_ret
        refine ⟨⟨true, rfl, fun _ => ⟨HV.out, V, HS.out, fun i => ?_⟩⟩, HF2.out.trans HF3.out⟩
        by_cases hi : i < M
        · exact hall.out i (by omega)
        · rw [HS.out.beyond (EEs_ok HVD.out) (N := M) (fun e he => by
            obtain ⟨x, hx, rfl⟩ := List.mem_map.1 he
            have := (okE_parts ((validB_parts HVD.out).2.2 x hx))
            simp only [toEE]
            omega) (by omega)]
          unfold top; decide
/-- the size of a leaf -/
theorem size_leaf (e : Int) (A : Option Addr) (c : Nat) (w : World) : Calls Try.prog 24 #[dv (.node e A c [])] w fun r w' => r = .returned (.int .i64 1) ∧ Below w.heap.size w w' := by
  simp only [dv, DI.e, DI.A, DI.c, DI.k, List.length_nil]
  go_enter Try.func24, Try.ntmps24
  go_wp2_with fail
  go_loopw [3, 4] (fun x i wr => x = .int .i64 1 ∧ i = .int .i64 0 ∧ wr = w.alloc (.cells #[.int .i64 e, .slice A 0 c] 27)) (fun _ i _ => 0)
  case atStart => exact ⟨rfl, rfl, rfl⟩
  case round =>
    obtain ⟨rfl, rfl, rfl⟩ := hrel
    go_wp2_with fail
    go_ret
    exact ⟨rfl, (Fut.refl w).alloc _⟩
end Go.Proofs.Ytfaekfonemobcaa
