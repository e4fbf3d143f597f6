/-
  Sums and products of lists: fold with a method's value.
-/
import Derived.Test.YtbkancahbcoedaaSemi
import Derived.LoopTactic
namespace Go.Proofs.Ytbkancahbcoedaa
open Go.RowKit
attribute [local go_sem] Oper.lit fut_fut fut_drew World.cell?_alloc_some
theorem foldInt_any (T : TypeId) (nm : String) (fn : FuncId) (F : Int → Int → Int) (Inv E : Int → Prop)
    (hm : ∀ w : World, (method 180 T uu nm).run Try.prog w = .ok (fn, uu) w)
    (hcf : ∀ (args : Array Value) (w : World), (callFunc fn args).run Try.prog w = .ok (.enter fn args) w)
    (hc : ∀ (a b : Int) (w : World), Inv a → E b → Calls Try.prog fn #[uu, .int .i64 a, .int .i64 b] w fun e w' => e = .returned (.int .i64 (F a b)) ∧ Below w.heap.size w w')
    (hI : ∀ a b, Inv a → E b → Inv (F a b)) (s : Int) (A : Option Addr) (n c : Nat) (l : List Int) (w : World) (hs : Inv s) (hl : l.length = n) (hn : n ≤ 1000) (hE : ∀ x ∈ l, E x) (hR : Rd1 w A (.int .i64 ·) l) :
    Calls Try.prog 50 #[.int .i64 s, .slice A n c, .func (.method nm) #[.iface T uu] #[]] w fun e w' => e = .returned (.int .i64 (l.foldl F s)) ∧ Below w.heap.size w w' := by
  have HC := Lib.hid hc
  have HI := Lib.hid hI
  have HE := Lib.hid hE
  have HR := Lib.hid hR
  have HL := Lib.hid hl
  clear hc hI hE hR hl
  go_enter Try.func50, Try.ntmps50
  go_wp2_with fail
  go_loopw [0, 11] (fun a i wr => ∃ k : Nat, k ≤ n ∧ i = .int .i64 k ∧ a = .int .i64 ((l.take k).foldl F s) ∧ Inv ((l.take k).foldl F s) ∧ Fut w wr) (fun _ i _ => n - (intOf i).toNat)
  case atStart => exact ⟨0, Nat.zero_le _, rfl, rfl, hs, Fut.refl _⟩
  case round =>
    obtain ⟨k, hk, rfl, rfl, hinv, hF⟩ := hrel
    by_cases hlt : k < n
    · obtain ⟨x, hx⟩ : ∃ x, l[k]? = some x := ⟨_, List.getElem?_eq_getElem (by have := HL.out; omega)⟩
      obtain ⟨b, o, rfl, hcell⟩ := HR.out k x hx
      have hcell2 := hF.cell hcell
      have hEx : E x := HE.out x (List.mem_of_getElem? hx)
      have ht : (l.take (k + 1)).foldl F s = F ((l.take k).foldl F s) x := by rw [List.take_add_one, hx]; simp
      have HT := Lib.hid ht
      have hnext := HI.out _ _ hinv hEx
      clear ht hx hcell
      generalize (l.take k).foldl F s = acc at *
      go_wp2_with fail
      refine (HC.out acc x _ hinv hEx).mono ?_
      rintro e w1 ⟨rfl, hb⟩
      go_wp2_with fail
      refine ⟨⟨k + 1, by omega, by go_num, by rw [HT.out], by rw [HT.out]; exact hnext, hF.trans hb⟩, by simp [intOf]; omega⟩
    · have hkn : k = n := by omega
      have HK := Lib.hid hkn
      have hfin : (l.take k).foldl F s = l.foldl F s := by rw [List.take_of_length_le (by rw [HK.out, HL.out]; omega)]
      have HFin := Lib.hid hfin
      clear hkn hfin hinv
      go_wp2_with fail
      go_ret
      exact ⟨by rw [← HFin.out]; rfl, hF⟩

theorem foldBool_any (T : TypeId) (nm : String) (fn : FuncId) (F : Bool → Bool → Bool) (Inv E : Bool → Prop)
    (hm : ∀ w : World, (method 180 T uu nm).run Try.prog w = .ok (fn, uu) w)
    (hcf : ∀ (args : Array Value) (w : World), (callFunc fn args).run Try.prog w = .ok (.enter fn args) w)
    (hc : ∀ (a b : Bool) (w : World), Inv a → E b → Calls Try.prog fn #[uu, .bool a, .bool b] w fun e w' => e = .returned (.bool (F a b)) ∧ Below w.heap.size w w')
    (hI : ∀ a b, Inv a → E b → Inv (F a b)) (s : Bool) (A : Option Addr) (n c : Nat) (l : List Bool) (w : World) (hs : Inv s) (hl : l.length = n) (hn : n ≤ 1000) (hE : ∀ x ∈ l, E x) (hR : Rd1 w A (.bool ·) l) :
    Calls Try.prog 53 #[.bool s, .slice A n c, .func (.method nm) #[.iface T uu] #[]] w fun e w' => e = .returned (.bool (l.foldl F s)) ∧ Below w.heap.size w w' := by
  have HC := Lib.hid hc
  have HI := Lib.hid hI
  have HE := Lib.hid hE
  have HR := Lib.hid hR
  have HL := Lib.hid hl
  clear hc hI hE hR hl
  go_enter Try.func53, Try.ntmps53
  go_wp2_with fail
  go_loopw [0, 11] (fun a i wr => ∃ k : Nat, k ≤ n ∧ i = .int .i64 k ∧ a = .bool ((l.take k).foldl F s) ∧ Inv ((l.take k).foldl F s) ∧ Fut w wr) (fun _ i _ => n - (intOf i).toNat)
  case atStart => exact ⟨0, Nat.zero_le _, rfl, rfl, hs, Fut.refl _⟩
  case round =>
    obtain ⟨k, hk, rfl, rfl, hinv, hF⟩ := hrel
    by_cases hlt : k < n
    · obtain ⟨x, hx⟩ : ∃ x, l[k]? = some x := ⟨_, List.getElem?_eq_getElem (by have := HL.out; omega)⟩
      obtain ⟨b, o, rfl, hcell⟩ := HR.out k x hx
      have hcell2 := hF.cell hcell
      have hEx : E x := HE.out x (List.mem_of_getElem? hx)
      have ht : (l.take (k + 1)).foldl F s = F ((l.take k).foldl F s) x := by rw [List.take_add_one, hx]; simp
      have HT := Lib.hid ht
      have hnext := HI.out _ _ hinv hEx
      clear ht hx hcell
      generalize (l.take k).foldl F s = acc at *
      go_wp2_with fail
      refine (HC.out acc x _ hinv hEx).mono ?_
      rintro e w1 ⟨rfl, hb⟩
      go_wp2_with fail
      refine ⟨⟨k + 1, by omega, by go_num, by rw [HT.out], by rw [HT.out]; exact hnext, hF.trans hb⟩, by simp [intOf]; omega⟩
    · have hkn : k = n := by omega
      have HK := Lib.hid hkn
      have hfin : (l.take k).foldl F s = l.foldl F s := by rw [List.take_of_length_le (by rw [HK.out, HL.out]; omega)]
      have HFin := Lib.hid hfin
      clear hkn hfin hinv
      go_wp2_with fail
      go_ret
      exact ⟨by rw [← HFin.out]; rfl, hF⟩

end Go.Proofs.Ytbkancahbcoedaa
