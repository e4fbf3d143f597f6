/-
  Sums and products of lists of values: fold with a method's value, over values.
-/
import Derived.Test.YtbkancahbcoedaaSum
import Derived.LoopTactic
import Derived.Lib.SmallJoins
namespace Go.Proofs.Ytbkancahbcoedaa
open Go.RowKit
attribute [local go_sem] Oper.lit fut_fut fut_drew World.cell?_alloc_some
abbrev pv (p : Int × Int) : Value := vv p.1 p.2
abbrev pe (p : Int × Int) : List Value := [.int .i64 p.1, .int .i64 p.2]
set_option maxHeartbeats 1600000 in
theorem foldVal_any (T : TypeId) (nm : String) (fn : FuncId) (F : Int × Int → Int × Int → Int × Int) (Inv E : Int × Int → Prop)
    (hm : ∀ w : World, (method 180 T uu nm).run Try.prog w = .ok (fn, uu) w)
    (hcf : ∀ (args : Array Value) (w : World), (callFunc fn args).run Try.prog w = .ok (.enter fn args) w)
    (hc : ∀ (a b : Int × Int) (w : World), Inv a → E b → Calls Try.prog fn #[uu, pv a, pv b] w fun e w' => e = .returned (pv (F a b)) ∧ Below w.heap.size w w')
    (hI : ∀ a b, Inv a → E b → Inv (F a b)) (s : Int × Int) (A : Option Addr) (n c : Nat) (l : List (Int × Int)) (w : World) (hs : Inv s) (hl : l.length = n) (hn : n ≤ 1000) (hE : ∀ x ∈ l, E x) (hR : RdS w A 2 pe l) :
    Calls Try.prog 51 #[pv s, .slice A n c, .func (.method nm) #[.iface T uu] #[]] w fun e w' => e = .returned (pv (l.foldl F s)) ∧ Below w.heap.size w w' := by
  have HC := Lib.hid hc
  have HI := Lib.hid hI
  have HE := Lib.hid hE
  have HR := Lib.hid hR
  have HL := Lib.hid hl
  clear hc hI hE hR hl
  go_enter Try.func51, Try.ntmps51
  go_wp2_with fail
  go_loopw [11] (fun i wr => ∃ k : Nat, ∃ a b : Int, k ≤ n ∧ i = .int .i64 k ∧ (l.take k).foldl F s = (a, b) ∧ Inv (a, b) ∧ wr.heap[w.heap.size]? = some (.cells #[.int .i64 a, .int .i64 b] 23 (0, 0)) ∧ wr.heap[w.heap.size + 1]? = some (.cells #[.int .i64 0, .int .i64 0] 23 (0, 0)) ∧ Fut w wr) (fun i _ => n - (intOf i).toNat)
  case atStart => exact ⟨0, s.1, s.2, Nat.zero_le _, rfl, rfl, hs, (Below.heap_alloc _ _ _ (by simp only [World.size_alloc]; omega)).trans (heap_alloc_new _ _), by rw [← World.size_alloc w (.cells #[.int .i64 s.1, .int .i64 s.2] 23)]; exact heap_alloc_new _ _, ((Fut.refl _).alloc _).alloc _⟩
  case round =>
    obtain ⟨k, a, b, hk, rfl, hacc, hinv, hbl, hbl2, hF⟩ := hrel
    by_cases hlt : k < n
    · obtain ⟨x, hx⟩ : ∃ x, l[k]? = some x := ⟨_, List.getElem?_eq_getElem (by have := HL.out; omega)⟩
      obtain ⟨bb, o, rfl, hcell⟩ := HR.out k x hx
      have h0 := hF.cell (hcell 0 _ (by decide) rfl)
      have h1 := hF.cell (hcell 1 _ (by decide) rfl)
      simp only [Nat.add_zero] at h0
      have hEx : E x := HE.out x (List.mem_of_getElem? hx)
      have ht : (l.take (k + 1)).foldl F s = F (a, b) x := by rw [List.take_add_one, hx, List.foldl_append, hacc]; rfl
      have HT := Lib.hid ht
      have hnext := HI.out _ _ hinv hEx
      have HN := Lib.hid hnext
      have HV := Lib.hid hinv
      have hca : wr.cell? ⟨w.heap.size, 0, none⟩ = some (.int .i64 a) := cell_of_row _ _ 0 _ _ _ hbl
      have hcb : wr.cell? ⟨w.heap.size, 1, none⟩ = some (.int .i64 b) := cell_of_row _ _ 1 _ _ _ hbl
      clear ht hx hcell hnext hinv hacc
      obtain ⟨x1, x2⟩ := x
      have hlb : w.heap.size < wr.heap.size := (Array.getElem?_eq_some_iff.1 hbl).1
      have hlb2 : w.heap.size + 1 < wr.heap.size := (Array.getElem?_eq_some_iff.1 hbl2).1
      go_wp2_with fail
      refine (HC.out (a, b) (x1, x2) _ HV.out hEx).mono ?_
      rintro e w1 ⟨rfl, hb⟩
      have hbl1 : w1.heap[w.heap.size]? = some (.cells #[.int .i64 a, .int .i64 b] 23 (0, 0)) := (hb.block _ (by simp only [World.size_alloc]; omega)).trans ((Below.heap_alloc _ _ _ hlb).trans hbl)
      have hbl21 : w1.heap[w.heap.size + 1]? = some (.cells #[.int .i64 0, .int .i64 0] 23 (0, 0)) := (hb.block _ (by simp only [World.size_alloc]; omega)).trans ((Below.heap_alloc _ _ _ hlb2).trans hbl2)
      have hF1 : Fut w w1 := (hF.alloc _).trans hb
      clear hb hbl hbl2 hca hcb h0 h1
      have hca : w1.cell? ⟨w.heap.size, 0, none⟩ = some (.int .i64 a) := cell_of_row _ _ 0 _ _ _ hbl1
      have hcb : w1.cell? ⟨w.heap.size, 1, none⟩ = some (.int .i64 b) := cell_of_row _ _ 1 _ _ _ hbl1
      have hfa : w1.frozen? ⟨w.heap.size, 0, none⟩ = false := frozen_of_row _ _ 0 _ _ hbl1
      have hfb : w1.frozen? ⟨w.heap.size, 1, none⟩ = false := frozen_of_row _ _ 1 _ _ hbl1
      have HB1 := Lib.hid hbl1
      have HB2 := Lib.hid hbl21
      clear hbl1 hbl21
      go_wp2_with fail
      refine ⟨⟨k + 1, _, _, by omega, by go_num, HT.out, HN.out, Joins.block_setCell (Joins.block_setCell HB1.out _) _, (heap_setCell_other _ _ _ _ (by simp)).trans ((heap_setCell_other _ _ _ _ (by simp)).trans HB2.out), (hF1.setCell (Nat.le_refl _) _).setCell (Nat.le_refl _) _⟩, by simp [intOf]; omega⟩
    · have hkn : k = n := by omega
      have HK := Lib.hid hkn
      have hfin : l.foldl F s = (a, b) := by rw [← hacc, List.take_of_length_le (by rw [HK.out, HL.out]; omega)]
      have HFin := Lib.hid hfin
      have hca : wr.cell? ⟨w.heap.size, 0, none⟩ = some (.int .i64 a) := cell_of_row _ _ 0 _ _ _ hbl
      have hcb : wr.cell? ⟨w.heap.size, 1, none⟩ = some (.int .i64 b) := cell_of_row _ _ 1 _ _ _ hbl
      have hda : wr.cell? ⟨w.heap.size + 1, 0, none⟩ = some (.int .i64 0) := cell_of_row _ _ 0 _ _ _ hbl2
      have hdb : wr.cell? ⟨w.heap.size + 1, 1, none⟩ = some (.int .i64 0) := cell_of_row _ _ 1 _ _ _ hbl2
      have hfa : wr.frozen? ⟨w.heap.size + 1, 0, none⟩ = false := frozen_of_row _ _ 0 _ _ hbl2
      have hfb : wr.frozen? ⟨w.heap.size + 1, 1, none⟩ = false := frozen_of_row _ _ 1 _ _ hbl2
      have hra : (wr.setCell ⟨w.heap.size + 1, 0, none⟩ (.int .i64 a)).cell? ⟨w.heap.size + 1, 0, none⟩ = some (.int .i64 a) := cell_of_row _ _ 0 _ _ _ (Joins.block_setCell hbl2 _)
      have hrb : ((wr.setCell ⟨w.heap.size + 1, 0, none⟩ (.int .i64 a)).setCell ⟨w.heap.size + 1, 1, none⟩ (.int .i64 b)).cell? ⟨w.heap.size + 1, 1, none⟩ = some (.int .i64 b) := cell_of_row _ _ 1 _ _ _ (Joins.block_setCell (Joins.block_setCell hbl2 _) _)
      clear hkn hfin hinv hacc hbl hbl2
      go_wp2_with fail
      (try simp only [Exit.inBlock, Exit.then])
      refine bodyPost_ret (by simp [results, Try.results51, go_sem, hra, hrb]; try rfl) rfl ?_
      exact ⟨by rw [HFin.out], (hF.setCell (Nat.le_succ _) _).setCell (Nat.le_succ _) _⟩
end Go.Proofs.Ytbkancahbcoedaa
