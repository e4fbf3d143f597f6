/-
  Inside and Naturals, where the arguments are wrong.
-/
import Derived.Test.YtjoejkfchnooaaaHrnat
namespace Go.Proofs.Ytjoejkfchnooaaa
open Go.RowKit
attribute [local go_sem] Oper.lit Oper.litS fut_fut fut_drew World.cell?_alloc_some
attribute [local go_sem] fut_base_drew
theorem insideI_bad (T : TypeId) (N : Int) (A B : Option Addr) (n c m d : Nat) (es : List EI) (w : World) (hl : es.length = n) (hn : n ≤ maxLen) (hbad : validB N es = false ∨ m ≠ n) (hR : RdE w A es) :
    Calls Try.prog 23 #[hv N A n c, .iface T uu, .slice B m d] w fun e w' => e = .returned (.tuple #[.slice none 0 0, .int .i64 1]) ∧ Below w.heap.size w w' := by
  have HL := Lib.hid hl
  have HR := Lib.hid hR
  have HB0 := Lib.hid (show Fut w (w.alloc (.cells #[.int .i64 N, .slice A n c] 24)) from (Fut.refl w).alloc _)
  have b1 : ∀ dd os, (fut (w.alloc (.cells #[.int .i64 N, .slice A n c] 24)) dd os).cell? ⟨w.heap.size, 1, none⟩ = some (.slice A n c) := cell_fut (by (first | (with_reducible assumption) | ((try simp (disch := first | (simp only [World.size_alloc, World.size_drew, World.size_setCell]; done) | (simp only [World.size_alloc, World.size_drew, World.size_setCell]; omega) | omega) only [cell_al_new, cell_al_old, cell_dr]); first | (with_reducible assumption) | rfl | (simp; done))))
  clear hl hR
  cases hv0 : validB N es with
  | false =>
    have HVAL := Lib.hid hv0
    clear hv0 hbad
    go_enter Try.func23, Try.ntmps23
    go_wp2_with (go_at_call 12; refine (valid_any N A n c es _ HL.out hn (HR.out.fut HB0.out)).mono ?_; rintro e w1 ⟨rfl, hb1⟩; rw [HVAL.out]; obtain ⟨dd, oo, rfl⟩ := fut_of hb1; clear hb1)
    go_ret2
    exact ⟨rfl, HB0.out.trans (Fut.fut _ _ _)⟩
  | true =>
    have HVAL := Lib.hid hv0
    rw [hv0] at hbad
    have hmn : m ≠ n := by rcases hbad with h | h; cases h; exact h
    have hb : ((m : Int) == (n : Int)) = false := by rw [beq_eq_false_iff_ne]; omega
    have hbn : ((m : Int) != (n : Int)) = true := by rw [bne, hb]; rfl
    clear hv0 hbad hmn
    go_enter Try.func23, Try.ntmps23
    go_wp2_with (go_at_call 12; refine (valid_any N A n c es _ HL.out hn (HR.out.fut HB0.out)).mono ?_; rintro e w1 ⟨rfl, hb1⟩; rw [HVAL.out]; obtain ⟨dd, oo, rfl⟩ := fut_of hb1; clear hb1)
    go_ret2
    exact ⟨rfl, HB0.out.trans (Fut.fut _ _ _)⟩
theorem rNat_bad (N : Int) (A B : Option Addr) (n c m d : Nat) (es : List EI) (w : World) (hl : es.length = n) (hn : n ≤ maxLen) (hbad : validB N es = false ∨ m ≠ n) (hR : RdE w A es) :
    Calls Try.prog 24 #[hv N A n c, .slice B m d] w fun e w' => e = .returned (.tuple #[.slice none 0 0, .int .i64 1]) ∧ Below w.heap.size w w' := by
  have HL := Lib.hid hl
  have HR := Lib.hid hR
  have HB0 := Lib.hid (show Fut w (w.alloc (.cells #[.int .i64 N, .slice A n c] 24)) from (Fut.refl w).alloc _)
  have b1 : ∀ dd os, (fut (w.alloc (.cells #[.int .i64 N, .slice A n c] 24)) dd os).cell? ⟨w.heap.size, 1, none⟩ = some (.slice A n c) := cell_fut (by (first | (with_reducible assumption) | ((try simp (disch := first | (simp only [World.size_alloc, World.size_drew, World.size_setCell]; done) | (simp only [World.size_alloc, World.size_drew, World.size_setCell]; omega) | omega) only [cell_al_new, cell_al_old, cell_dr]); first | (with_reducible assumption) | rfl | (simp; done))))
  clear hl hR
  cases hv0 : validB N es with
  | false =>
    have HVAL := Lib.hid hv0
    clear hv0 hbad
    go_enter Try.func24, Try.ntmps24
    go_wp2_with (go_at_call 13; refine (rValid_any N A n c es _ HL.out hn (HR.out.fut HB0.out)).mono ?_; rintro e w1 ⟨rfl, hb1⟩; rw [HVAL.out]; obtain ⟨dd, oo, rfl⟩ := fut_of hb1; clear hb1)
    go_ret2
    exact ⟨rfl, HB0.out.trans (Fut.fut _ _ _)⟩
  | true =>
    have HVAL := Lib.hid hv0
    rw [hv0] at hbad
    have hmn : m ≠ n := by rcases hbad with h | h; cases h; exact h
    have hb : ((m : Int) == (n : Int)) = false := by rw [beq_eq_false_iff_ne]; omega
    have hbn : ((m : Int) != (n : Int)) = true := by rw [bne, hb]; rfl
    clear hv0 hbad hmn
    go_enter Try.func24, Try.ntmps24
    go_wp2_with (go_at_call 13; refine (rValid_any N A n c es _ HL.out hn (HR.out.fut HB0.out)).mono ?_; rintro e w1 ⟨rfl, hb1⟩; rw [HVAL.out]; obtain ⟨dd, oo, rfl⟩ := fut_of hb1; clear hb1)
    go_ret2
    exact ⟨rfl, HB0.out.trans (Fut.fut _ _ _)⟩
end Go.Proofs.Ytjoejkfchnooaaa
