/-
  Words: cut, their sum and product.
-/
import Derived.Test.YtjoejkfchnooaaaHinsS
import Derived.Test.YtjoejkfchnooaaaHsm
namespace Go.Proofs.Ytjoejkfchnooaaa
open Go.RowKit
attribute [local go_sem] Oper.lit Oper.litS fut_fut fut_drew World.cell?_alloc_some
attribute [local go_sem] fut_base_drew
/-- a long string is shortened -/
def cutF (s : ByteArray) : ByteArray := if 200 < s.size then s.extract 0 100 ++ s.extract (s.size - 100) s.size else s
theorem cutF_size (s : ByteArray) : (cutF s).size ≤ 200 := by
  unfold cutF
  split
  · rw [ByteArray.size_append, ByteArray.size_extract, ByteArray.size_extract]; omega
  · omega
abbrev mulW (a b : ByteArray) : ByteArray := cutF (a ++ ⟨#[46]⟩ ++ b)
abbrev addW (a b : ByteArray) : ByteArray := cutF (a ++ ⟨#[43]⟩ ++ b)
set_option maxHeartbeats 3200000 in
theorem cut_any (s : ByteArray) (w : World) (hs : s.size ≤ maxLen) : Calls Try.prog 34 #[.string s] w fun e w' => e = .returned (.string (cutF s)) ∧ Below w.heap.size w w' := by
  have hs' : s.size ≤ 9223372036854775807 := hs
  by_cases hl : 200 < s.size
  · have hlt : ((200 : Int) < (s.size : Int)) = True := eq_true (by omega)
    have n0 : ((s.size : Int) - 100) = ((s.size - 100 : Nat) : Int) := by omega
    have n1 : IntKind.i64.wrap ((s.size : Int) - 100) = ((s.size - 100 : Nat) : Int) := by rw [n0]; exact IntWalk.i64_in _ ⟨by omega, by omega⟩
    have n2 : wrap64 ((s.size : Int) - 100) = ((s.size - 100 : Nat) : Int) := by rw [n0]; exact IntWalk.wrap64_in _ ⟨by omega, by omega⟩
    have HCUT := Lib.hid (show cutF s = s.extract 0 100 ++ s.extract (s.size - 100) s.size from by unfold cutF; rw [if_pos hl])
    have n4 : ((100 : Int) ≤ (s.size : Int)) = True := eq_true (by omega)
    have n5 : (((s.size - 100 : Nat) : Int) ≤ (s.size : Int)) = True := eq_true (by omega)
    have n6 : (9223372036854775807 < min 100 s.size + (s.size - (s.size - 100))) = False := eq_false (by omega)
    clear n0
    go_enter Try.func34, Try.ntmps34
    go_wp2_with fail
    refine wp_region_M o_emendateref27_Cut_2 (by kernel_rfl) (by kernel_rfl) (by intro c a d v w h; cases d <;> exact h) ?_; unfold o_emendateref27_Cut_2
    repeat (refine wpF_h rfl rfl (fun K hK => ?_); go_simp; refine hK _ _ ?_; clear hK K)
    refine wpF_nil ?_
    go_wp2_with fail
    go_ret
    exact ⟨by rw [HCUT.out]; rfl, Fut.drew (Fut.refl _)⟩
  · have hlt : ((200 : Int) < (s.size : Int)) = False := eq_false (by omega)
    have HCUT := Lib.hid (show cutF s = s from by unfold cutF; rw [if_neg hl])
    go_enter Try.func34, Try.ntmps34
    go_wp2_with fail
    go_ret
    exact ⟨by rw [HCUT.out]; rfl, Fut.refl _⟩
theorem wdZero_any (w : World) : Calls Try.prog 57 #[uu] w fun e w' => e = .returned (.string ByteArray.empty) ∧ Below w.heap.size w w' := by
  go_enter Try.func57, Try.ntmps57
  go_wp2
  all_goals
    go_returns
    refine ⟨?_, by go_grown⟩
    rfl
theorem wdAdd_any (a b : ByteArray) (w : World) (ha : a.size ≤ 200) (hb : b.size ≤ 200) : Calls Try.prog 54 #[uu, .string a, .string b] w fun e w' => e = .returned (.string (addW a b)) ∧ Below w.heap.size w w' := by
  have hs1 : (9223372036854775807 < a.size + 1) = False := by simp; omega
  have hs2 : (9223372036854775807 < a.size + 1 + b.size) = False := by simp; omega
  go_enter Try.func54, Try.ntmps54
  go_wp2_with (go_at_call 34; refine (cut_any _ _ (by simp only [ByteArray.size_append]; have hone : (⟨#[43]⟩ : ByteArray).size = 1 := rfl; unfold maxLen; omega)).mono ?_; rintro e w5 ⟨rfl, hb5⟩; have HB5 := Lib.hid hb5; clear hb5)
  go_ret
  exact ⟨rfl, Fut.trans ((Fut.refl w).alloc _) HB5.out⟩
theorem wdMul_any (a b : ByteArray) (w : World) (ha : a.size ≤ 200) (hb : b.size ≤ 200) : Calls Try.prog 55 #[uu, .string a, .string b] w fun e w' => e = .returned (.string (mulW a b)) ∧ Below w.heap.size w w' := by
  have hs1 : (9223372036854775807 < a.size + 1) = False := by simp; omega
  have hs2 : (9223372036854775807 < a.size + 1 + b.size) = False := by simp; omega
  go_enter Try.func55, Try.ntmps55
  go_wp2_with (go_at_call 34; refine (cut_any _ _ (by simp only [ByteArray.size_append]; have hone : (⟨#[46]⟩ : ByteArray).size = 1 := rfl; unfold maxLen; omega)).mono ?_; rintro e w5 ⟨rfl, hb5⟩; have HB5 := Lib.hid hb5; clear hb5)
  go_ret
  exact ⟨rfl, Fut.trans ((Fut.refl w).alloc _) HB5.out⟩
theorem m_wd_Zero (w : World) : (method 190 48 uu "Zero").run Try.prog w = .ok (57, uu) w := by kernel_rfl
theorem c_wd_Zero (args : Array Value) (w : World) : (callFunc 57 args).run Try.prog w = .ok (.enter 57 args) w := by kernel_rfl
theorem m_wd_Mul (w : World) : (method 190 48 uu "Mul").run Try.prog w = .ok (55, uu) w := by kernel_rfl
theorem c_wd_Mul (args : Array Value) (w : World) : (callFunc 55 args).run Try.prog w = .ok (.enter 55 args) w := by kernel_rfl
theorem m_wd_Add (w : World) : (method 190 48 uu "Add").run Try.prog w = .ok (54, uu) w := by kernel_rfl
theorem c_wd_Add (args : Array Value) (w : World) : (callFunc 54 args).run Try.prog w = .ok (.enter 54 args) w := by kernel_rfl
theorem n_wd_Mul (w : World) : (nilAhead 190 48 uu "Mul").run Try.prog w = .ok (some false) w := by kernel_rfl
theorem inside_word (N : Nat) (A B : Option Addr) (n c d : Nat) (es : List EI) (ws : List ByteArray) (w : World) (hl : es.length = n) (hwl : ws.length = n) (hn : n ≤ 1000) (hval : validB N es = true) (htot : sumT es n ≤ 1000000) (hR : RdE w A es) (hRw : Rd1 w B (Value.string ·) ws) (hwI : ∀ x ∈ ws, x.size ≤ 200) :
    Calls Try.prog 25 #[hv N A n c, .iface 48 uu, .slice B n d] w fun e w' => InsRes Value.string w' e N (insO ByteArray.empty ByteArray.empty mulW addW es ws n) (ordS es N) ∧ Below w.heap.size w w' :=
  insideS_any 48 57 55 54 ByteArray.empty mulW addW (fun x => x.size ≤ 200) m_wd_Zero m_wd_Mul n_wd_Mul m_wd_Add c_wd_Zero c_wd_Mul c_wd_Add wdZero_any (fun a b w ha hb => wdMul_any a b w ha hb) (fun a b w ha hb => wdAdd_any a b w ha hb)
    (by decide) (by decide) (fun a b _ _ => cutF_size _) (fun a b _ _ => cutF_size _) N A B n c d es ws w hl hwl hn hval htot hR hRw hwI
end Go.Proofs.Ytjoejkfchnooaaa
