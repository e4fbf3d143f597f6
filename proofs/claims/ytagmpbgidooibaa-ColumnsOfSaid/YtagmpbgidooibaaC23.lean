/-
  The law of validity, walked: it returns true and turns nothing that was there.
-/
import Derived.Test.YtagmpbgidooibaaC21
import Derived.Test.YtagmpbgidooibaaC8
namespace Go.Proofs.Ytagmpbgidooibaa
open Go.RowKit Go.Deep
attribute [local go_sem] Oper.lit Oper.litS fut_fut fut_drew World.cell?_alloc_some
theorem fut_base_drew (b : World) (d : Nat) (os : Array Obj) : fut b.drew d os = fut b d os := rfl
attribute [local go_sem] fut_base_drew
set_option maxHeartbeats 3200000 in
theorem law_cvalid (A : Option Addr) (n c : Nat) (B : Option Addr) (m d : Nat) (s T : Int) (cs : List CC) (ins : List Int) (w : World) (hl : cs.length = n) (hn : n ≤ maxLen) (hil : ins.length = m) (hm : m ≤ maxLen) (hR : RdC w A cs) (hI : Rd1 w B (.int .i64 ·) ins) :
    Calls Try.prog 3 #[iv A n c B m d s, .int .i64 T] w fun e w' => e = .returned (.bool true) ∧ Below w.heap.size w w' := by
  have HW := Lib.hid ((Fut.refl w).alloc (.cells #[.slice A n c, .slice B m d, .int .i64 s] 25))
  have q0 : ∀ dd os, (fut (w.alloc (.cells #[.slice A n c, .slice B m d, .int .i64 s] 25)) dd os).cell? ⟨w.heap.size, 0, none⟩ = some (.slice A n c) := cell_fut (by (repeat (first | exact (cell_al_new _ _ _ _ _ _ (by first | rfl | (simp only [World.size_alloc]))).trans rfl | refine (cell_al_old _ _ _ (by first | omega | (simp only [World.size_alloc]; omega))).trans ?_)))
  have q1 : ∀ dd os, (fut (w.alloc (.cells #[.slice A n c, .slice B m d, .int .i64 s] 25)) dd os).cell? ⟨w.heap.size, 1, none⟩ = some (.slice B m d) := cell_fut (by (repeat (first | exact (cell_al_new _ _ _ _ _ _ (by first | rfl | (simp only [World.size_alloc]))).trans rfl | refine (cell_al_old _ _ _ (by first | omega | (simp only [World.size_alloc]; omega))).trans ?_)))
  have q2 : ∀ dd os, (fut (w.alloc (.cells #[.slice A n c, .slice B m d, .int .i64 s] 25)) dd os).cell? ⟨w.heap.size, 2, none⟩ = some (.int .i64 s) := cell_fut (by (repeat (first | exact (cell_al_new _ _ _ _ _ _ (by first | rfl | (simp only [World.size_alloc]))).trans rfl | refine (cell_al_old _ _ _ (by first | omega | (simp only [World.size_alloc]; omega))).trans ?_)))
  have HR := Lib.hid (hR.fut HW.out)
  have HI := Lib.hid (hI.fut HW.out)
  have HFW := Lib.hid (fun w' h => few_any A n c cs B m d ins s w' hl hn hil hm h)
  have HV := Lib.hid (fun w' h1 h2 => valid_any T A n c cs B m d ins s w' hl hn h1 hil hm h2)
  have HRV := Lib.hid (fun w' h1 h2 => rValid_any T A n c cs B m d ins s w' hl hn h1 hil hm h2)
  clear hl hn hil hm hR hI
  cases hf : fewI cs ins with
  | false =>
    rw [hf] at HFW
    clear hf
    go_enter Try.func3, Try.ntmps3
    go_wp2_with (first | (go_at_call 9; refine (HFW.out _ HR.out).mono ?_; rintro e w1 ⟨rfl, hb1⟩; obtain ⟨dd, oo, rfl⟩ := fut_of hb1; clear hb1) | (go_at_call 10; refine (awake_any _).mono ?_; rintro e w1 ⟨rfl, hb1⟩; have HB := Lib.hid hb1; clear hb1))
    go_ret
    exact ⟨rfl, HW.out.trans ((Fut.fut _ _ _).trans HB.out)⟩
  | true =>
    rw [hf] at HFW
    clear hf
    have heq : (validI T cs ins s == validI T cs ins s) = true := beq_self_eq_true _
    generalize validI T cs ins s = vv at *
    go_enter Try.func3, Try.ntmps3
    go_wp2_with (go_at_call 9; refine (HFW.out _ HR.out).mono ?_; rintro e w1 ⟨rfl, hb1⟩; obtain ⟨dd, oo, rfl⟩ := fut_of hb1; clear hb1)
    refine wp_region_M o_emendatelaw35_ColumnsValid_3 (by kernel_rfl) (by kernel_rfl) (by intro c a d v w h; cases d <;> exact h) ?_; unfold o_emendatelaw35_ColumnsValid_3
    refine wpF_o rfl rfl (fun K hK => ?_)
    go_simp
    go_at_call 10
    refine (awake_any _).mono ?_
    rintro e w1 ⟨rfl, hb1⟩
    have f1 : Fut _ w1 := hb1
    refine hK _ _ (.inr hb1) ?_
    clear hK K hb1
    iterate 5 (refine wpF_h rfl rfl (fun K hK => ?_); go_simp; refine hK _ _ ?_; clear hK K)
    refine wpF_o rfl rfl (fun K hK => ?_)
    go_simp
    go_at_call 11
    refine (HV.out _ (HR.out.fut ((Fut.fut _ _ _).trans f1)) (HI.out.fut ((Fut.fut _ _ _).trans f1))).mono ?_
    rintro e w2 ⟨rfl, hb2⟩
    have f2 : Fut _ w2 := hb2
    refine hK _ _ (.inr hb2) ?_
    clear hK K hb2
    refine wpF_o rfl rfl (fun K hK => ?_)
    go_simp
    go_at_call 12
    refine (HRV.out _ (HR.out.fut ((Fut.fut _ _ _).trans (f1.trans f2))) (HI.out.fut ((Fut.fut _ _ _).trans (f1.trans f2)))).mono ?_
    rintro e w3 ⟨rfl, hb3⟩
    have f3 : Fut _ w3 := hb3
    refine hK _ _ (.inr hb3) ?_
    clear hK K hb3
    iterate 3 (refine wpF_h rfl rfl (fun K hK => ?_); go_simp; refine hK _ _ ?_; clear hK K)
    refine wpF_nil ?_
    go_wp2_with fail
    go_ret
    exact ⟨rfl, HW.out.trans ((Fut.fut _ _ _).trans (f1.trans (f2.trans f3)))⟩
end Go.Proofs.Ytagmpbgidooibaa
