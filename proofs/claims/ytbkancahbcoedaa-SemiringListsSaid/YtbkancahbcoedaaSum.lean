/-
  Sums and products of lists in each semiring.
-/
import Derived.Test.YtbkancahbcoedaaFold
namespace Go.Proofs.Ytbkancahbcoedaa
open Go.RowKit
attribute [local go_sem] Oper.lit fut_fut fut_drew World.cell?_alloc_some
theorem m_Tropical_Zero (w : World) : (method 180 36 uu "Zero").run Try.prog w = .ok (30, uu) w := by kernel_rfl
theorem c_Tropical_Zero (args : Array Value) (w : World) : (callFunc 30 args).run Try.prog w = .ok (.enter 30 args) w := by kernel_rfl
theorem m_Tropical_One (w : World) : (method 180 36 uu "One").run Try.prog w = .ok (32, uu) w := by kernel_rfl
theorem c_Tropical_One (args : Array Value) (w : World) : (callFunc 32 args).run Try.prog w = .ok (.enter 32 args) w := by kernel_rfl
theorem m_Tropical_Add (w : World) : (method 180 36 uu "Add").run Try.prog w = .ok (29, uu) w := by kernel_rfl
theorem c_Tropical_Add (args : Array Value) (w : World) : (callFunc 29 args).run Try.prog w = .ok (.enter 29 args) w := by kernel_rfl
theorem m_Tropical_Mul (w : World) : (method 180 36 uu "Mul").run Try.prog w = .ok (31, uu) w := by kernel_rfl
theorem c_Tropical_Mul (args : Array Value) (w : World) : (callFunc 31 args).run Try.prog w = .ok (.enter 31 args) w := by kernel_rfl
theorem m_Counting_Zero (w : World) : (method 180 37 uu "Zero").run Try.prog w = .ok (34, uu) w := by kernel_rfl
theorem c_Counting_Zero (args : Array Value) (w : World) : (callFunc 34 args).run Try.prog w = .ok (.enter 34 args) w := by kernel_rfl
theorem m_Counting_One (w : World) : (method 180 37 uu "One").run Try.prog w = .ok (36, uu) w := by kernel_rfl
theorem c_Counting_One (args : Array Value) (w : World) : (callFunc 36 args).run Try.prog w = .ok (.enter 36 args) w := by kernel_rfl
theorem m_Counting_Add (w : World) : (method 180 37 uu "Add").run Try.prog w = .ok (33, uu) w := by kernel_rfl
theorem c_Counting_Add (args : Array Value) (w : World) : (callFunc 33 args).run Try.prog w = .ok (.enter 33 args) w := by kernel_rfl
theorem m_Counting_Mul (w : World) : (method 180 37 uu "Mul").run Try.prog w = .ok (35, uu) w := by kernel_rfl
theorem c_Counting_Mul (args : Array Value) (w : World) : (callFunc 35 args).run Try.prog w = .ok (.enter 35 args) w := by kernel_rfl
theorem m_Lexicographic_Zero (w : World) : (method 180 27 uu "Zero").run Try.prog w = .ok (37, uu) w := by kernel_rfl
theorem c_Lexicographic_Zero (args : Array Value) (w : World) : (callFunc 37 args).run Try.prog w = .ok (.enter 37 args) w := by kernel_rfl
theorem m_Lexicographic_One (w : World) : (method 180 27 uu "One").run Try.prog w = .ok (18, uu) w := by kernel_rfl
theorem c_Lexicographic_One (args : Array Value) (w : World) : (callFunc 18 args).run Try.prog w = .ok (.enter 18 args) w := by kernel_rfl
theorem m_Lexicographic_Add (w : World) : (method 180 27 uu "Add").run Try.prog w = .ok (13, uu) w := by kernel_rfl
theorem c_Lexicographic_Add (args : Array Value) (w : World) : (callFunc 13 args).run Try.prog w = .ok (.enter 13 args) w := by kernel_rfl
theorem m_Lexicographic_Mul (w : World) : (method 180 27 uu "Mul").run Try.prog w = .ok (15, uu) w := by kernel_rfl
theorem c_Lexicographic_Mul (args : Array Value) (w : World) : (callFunc 15 args).run Try.prog w = .ok (.enter 15 args) w := by kernel_rfl
theorem m_Boolean_Zero (w : World) : (method 180 45 uu "Zero").run Try.prog w = .ok (47, uu) w := by kernel_rfl
theorem c_Boolean_Zero (args : Array Value) (w : World) : (callFunc 47 args).run Try.prog w = .ok (.enter 47 args) w := by kernel_rfl
theorem m_Boolean_One (w : World) : (method 180 45 uu "One").run Try.prog w = .ok (46, uu) w := by kernel_rfl
theorem c_Boolean_One (args : Array Value) (w : World) : (callFunc 46 args).run Try.prog w = .ok (.enter 46 args) w := by kernel_rfl
theorem m_Boolean_Add (w : World) : (method 180 45 uu "Add").run Try.prog w = .ok (38, uu) w := by kernel_rfl
theorem c_Boolean_Add (args : Array Value) (w : World) : (callFunc 38 args).run Try.prog w = .ok (.enter 38 args) w := by kernel_rfl
theorem m_Boolean_Mul (w : World) : (method 180 45 uu "Mul").run Try.prog w = .ok (39, uu) w := by kernel_rfl
theorem c_Boolean_Mul (args : Array Value) (w : World) : (callFunc 39 args).run Try.prog w = .ok (.enter 39 args) w := by kernel_rfl
theorem sumTrop (A : Option Addr) (n c : Nat) (l : List Int) (w : World) (hl : l.length = n) (hn : n ≤ 1000) (hE : ∀ x ∈ l, (fun _ => True) x) (hR : Rd1 w A (.int .i64 ·) l) :
    Calls Try.prog 24 #[.iface 36 uu, .slice A n c] w fun e w' => e = .returned (.int .i64 (l.foldl minF 1099511627776)) ∧ Below w.heap.size w w' := by
  have HR := Lib.hid hR
  have HL := Lib.hid hl
  have HE := Lib.hid hE
  clear hR hl hE
  have hmz := m_Tropical_Zero
  go_enter Try.func24, Try.ntmps24
  go_wp2_with fail
  refine wp_region_M o_semiring_Sum_int_1 (by kernel_rfl) (by kernel_rfl) (by intro c a d v w h; cases d <;> exact h) ?_; unfold o_semiring_Sum_int_1
  repeat (refine wpF_h rfl rfl (fun K hK => ?_); go_simp; refine hK _ _ ?_; clear hK K)
  refine wpF_o rfl rfl (fun K hK => ?_)
  go_simp
  refine (tropZero_any _).mono ?_
  rintro e w1 ⟨rfl, hb1⟩
  refine hK _ _ (.inr hb1) ?_
  clear hK K
  have hF : Fut w w1 := (Fut.refl w).drew.trans hb1
  refine wpF_o rfl rfl (fun K hK => ?_)
  go_simp
  refine (foldInt_any 36 "Add" 29 minF (fun _ => True) (fun _ => True) m_Tropical_Add c_Tropical_Add (fun a b w _ _ => tropAdd_any a b w) (fun _ _ _ _ => trivial) 1099511627776 A n c l _ ?_ HL.out hn HE.out (HR.out.fut hF)).mono ?_
  · first | trivial | decide | (constructor <;> decide)
  rintro e w2 ⟨rfl, hb2⟩
  refine hK _ _ (.inr hb2) ?_
  clear hK K
  repeat (refine wpF_h rfl rfl (fun K hK => ?_); go_simp; refine hK _ _ ?_; clear hK K)
  refine wpF_nil ?_
  go_wp2_with fail
  go_ret
  exact ⟨rfl, hF.trans hb2⟩

theorem prodTrop (A : Option Addr) (n c : Nat) (l : List Int) (w : World) (hl : l.length = n) (hn : n ≤ 1000) (hE : ∀ x ∈ l, (fun x => 0 ≤ x ∧ x ≤ 1099511627776) x) (hR : Rd1 w A (.int .i64 ·) l) :
    Calls Try.prog 25 #[.iface 36 uu, .slice A n c] w fun e w' => e = .returned (.int .i64 (l.foldl plusF 0)) ∧ Below w.heap.size w w' := by
  have HR := Lib.hid hR
  have HL := Lib.hid hl
  have HE := Lib.hid hE
  clear hR hl hE
  have hmz := m_Tropical_One
  go_enter Try.func25, Try.ntmps25
  go_wp2_with fail
  refine wp_region_M o_semiring_Product_int_1 (by kernel_rfl) (by kernel_rfl) (by intro c a d v w h; cases d <;> exact h) ?_; unfold o_semiring_Product_int_1
  repeat (refine wpF_h rfl rfl (fun K hK => ?_); go_simp; refine hK _ _ ?_; clear hK K)
  refine wpF_o rfl rfl (fun K hK => ?_)
  go_simp
  refine (tropOne_any _).mono ?_
  rintro e w1 ⟨rfl, hb1⟩
  refine hK _ _ (.inr hb1) ?_
  clear hK K
  have hF : Fut w w1 := (Fut.refl w).drew.trans hb1
  refine wpF_o rfl rfl (fun K hK => ?_)
  go_simp
  refine (foldInt_any 36 "Mul" 31 plusF (fun x => 0 ≤ x ∧ x ≤ 1099511627776) (fun x => 0 ≤ x ∧ x ≤ 1099511627776) m_Tropical_Mul c_Tropical_Mul (fun a b w h1 h2 => tropMul_any a b h1.1 h1.2 h2.1 h2.2 w) (fun _ _ h1 h2 => plusF_bd h1.1 h2.1) 0 A n c l _ ?_ HL.out hn HE.out (HR.out.fut hF)).mono ?_
  · first | trivial | decide | (constructor <;> decide)
  rintro e w2 ⟨rfl, hb2⟩
  refine hK _ _ (.inr hb2) ?_
  clear hK K
  repeat (refine wpF_h rfl rfl (fun K hK => ?_); go_simp; refine hK _ _ ?_; clear hK K)
  refine wpF_nil ?_
  go_wp2_with fail
  go_ret
  exact ⟨rfl, hF.trans hb2⟩

theorem sumCnt (A : Option Addr) (n c : Nat) (l : List Int) (w : World) (hl : l.length = n) (hn : n ≤ 1000) (hE : ∀ x ∈ l, (fun x => 0 ≤ x ∧ x ≤ 1099511627776) x) (hR : Rd1 w A (.int .i64 ·) l) :
    Calls Try.prog 24 #[.iface 37 uu, .slice A n c] w fun e w' => e = .returned (.int .i64 (l.foldl plusF 0)) ∧ Below w.heap.size w w' := by
  have HR := Lib.hid hR
  have HL := Lib.hid hl
  have HE := Lib.hid hE
  clear hR hl hE
  have hmz := m_Counting_Zero
  go_enter Try.func24, Try.ntmps24
  go_wp2_with fail
  refine wp_region_M o_semiring_Sum_int_1 (by kernel_rfl) (by kernel_rfl) (by intro c a d v w h; cases d <;> exact h) ?_; unfold o_semiring_Sum_int_1
  repeat (refine wpF_h rfl rfl (fun K hK => ?_); go_simp; refine hK _ _ ?_; clear hK K)
  refine wpF_o rfl rfl (fun K hK => ?_)
  go_simp
  refine (cntZero_any _).mono ?_
  rintro e w1 ⟨rfl, hb1⟩
  refine hK _ _ (.inr hb1) ?_
  clear hK K
  have hF : Fut w w1 := (Fut.refl w).drew.trans hb1
  refine wpF_o rfl rfl (fun K hK => ?_)
  go_simp
  refine (foldInt_any 37 "Add" 33 plusF (fun x => 0 ≤ x ∧ x ≤ 1099511627776) (fun x => 0 ≤ x ∧ x ≤ 1099511627776) m_Counting_Add c_Counting_Add (fun a b w h1 h2 => cntAdd_any a b h1.1 h1.2 h2.1 h2.2 w) (fun _ _ h1 h2 => plusF_bd h1.1 h2.1) 0 A n c l _ ?_ HL.out hn HE.out (HR.out.fut hF)).mono ?_
  · first | trivial | decide | (constructor <;> decide)
  rintro e w2 ⟨rfl, hb2⟩
  refine hK _ _ (.inr hb2) ?_
  clear hK K
  repeat (refine wpF_h rfl rfl (fun K hK => ?_); go_simp; refine hK _ _ ?_; clear hK K)
  refine wpF_nil ?_
  go_wp2_with fail
  go_ret
  exact ⟨rfl, hF.trans hb2⟩

theorem prodCnt (A : Option Addr) (n c : Nat) (l : List Int) (w : World) (hl : l.length = n) (hn : n ≤ 1000) (hE : ∀ x ∈ l, (fun x => 0 ≤ x ∧ x ≤ 1099511627776) x) (hR : Rd1 w A (.int .i64 ·) l) :
    Calls Try.prog 25 #[.iface 37 uu, .slice A n c] w fun e w' => e = .returned (.int .i64 (l.foldl mulF 1)) ∧ Below w.heap.size w w' := by
  have HR := Lib.hid hR
  have HL := Lib.hid hl
  have HE := Lib.hid hE
  clear hR hl hE
  have hmz := m_Counting_One
  go_enter Try.func25, Try.ntmps25
  go_wp2_with fail
  refine wp_region_M o_semiring_Product_int_1 (by kernel_rfl) (by kernel_rfl) (by intro c a d v w h; cases d <;> exact h) ?_; unfold o_semiring_Product_int_1
  repeat (refine wpF_h rfl rfl (fun K hK => ?_); go_simp; refine hK _ _ ?_; clear hK K)
  refine wpF_o rfl rfl (fun K hK => ?_)
  go_simp
  refine (cntOne_any _).mono ?_
  rintro e w1 ⟨rfl, hb1⟩
  refine hK _ _ (.inr hb1) ?_
  clear hK K
  have hF : Fut w w1 := (Fut.refl w).drew.trans hb1
  refine wpF_o rfl rfl (fun K hK => ?_)
  go_simp
  refine (foldInt_any 37 "Mul" 35 mulF (fun x => 0 ≤ x ∧ x ≤ 1099511627776) (fun x => 0 ≤ x ∧ x ≤ 1099511627776) m_Counting_Mul c_Counting_Mul (fun a b w h1 h2 => cntMul_any a b h1.1 h1.2 h2.1 h2.2 w) (fun _ _ h1 h2 => mulF_bd h1.1 h2.1) 1 A n c l _ ?_ HL.out hn HE.out (HR.out.fut hF)).mono ?_
  · first | trivial | decide | (constructor <;> decide)
  rintro e w2 ⟨rfl, hb2⟩
  refine hK _ _ (.inr hb2) ?_
  clear hK K
  repeat (refine wpF_h rfl rfl (fun K hK => ?_); go_simp; refine hK _ _ ?_; clear hK K)
  refine wpF_nil ?_
  go_wp2_with fail
  go_ret
  exact ⟨rfl, hF.trans hb2⟩

theorem sumBool (A : Option Addr) (n c : Nat) (l : List Bool) (w : World) (hl : l.length = n) (hn : n ≤ 1000) (hE : ∀ x ∈ l, (fun _ => True) x) (hR : Rd1 w A (.bool ·) l) :
    Calls Try.prog 41 #[.iface 45 uu, .slice A n c] w fun e w' => e = .returned (.bool (l.foldl (fun a b => a || b) false)) ∧ Below w.heap.size w w' := by
  have HR := Lib.hid hR
  have HL := Lib.hid hl
  have HE := Lib.hid hE
  clear hR hl hE
  have hmz := m_Boolean_Zero
  go_enter Try.func41, Try.ntmps41
  go_wp2_with fail
  refine wp_region_M o_semiring_Sum_bool_1 (by kernel_rfl) (by kernel_rfl) (by intro c a d v w h; cases d <;> exact h) ?_; unfold o_semiring_Sum_bool_1
  repeat (refine wpF_h rfl rfl (fun K hK => ?_); go_simp; refine hK _ _ ?_; clear hK K)
  refine wpF_o rfl rfl (fun K hK => ?_)
  go_simp
  refine (boolZero_any _).mono ?_
  rintro e w1 ⟨rfl, hb1⟩
  refine hK _ _ (.inr hb1) ?_
  clear hK K
  have hF : Fut w w1 := (Fut.refl w).drew.trans hb1
  refine wpF_o rfl rfl (fun K hK => ?_)
  go_simp
  refine (foldBool_any 45 "Add" 38 (fun a b => a || b) (fun _ => True) (fun _ => True) m_Boolean_Add c_Boolean_Add (fun a b w _ _ => boolAdd_any a b w) (fun _ _ _ _ => trivial) false A n c l _ ?_ HL.out hn HE.out (HR.out.fut hF)).mono ?_
  · first | trivial | decide | (constructor <;> decide)
  rintro e w2 ⟨rfl, hb2⟩
  refine hK _ _ (.inr hb2) ?_
  clear hK K
  repeat (refine wpF_h rfl rfl (fun K hK => ?_); go_simp; refine hK _ _ ?_; clear hK K)
  refine wpF_nil ?_
  go_wp2_with fail
  go_ret
  exact ⟨rfl, hF.trans hb2⟩

theorem prodBool (A : Option Addr) (n c : Nat) (l : List Bool) (w : World) (hl : l.length = n) (hn : n ≤ 1000) (hE : ∀ x ∈ l, (fun _ => True) x) (hR : Rd1 w A (.bool ·) l) :
    Calls Try.prog 42 #[.iface 45 uu, .slice A n c] w fun e w' => e = .returned (.bool (l.foldl (fun a b => a && b) true)) ∧ Below w.heap.size w w' := by
  have HR := Lib.hid hR
  have HL := Lib.hid hl
  have HE := Lib.hid hE
  clear hR hl hE
  have hmz := m_Boolean_One
  go_enter Try.func42, Try.ntmps42
  go_wp2_with fail
  refine wp_region_M o_semiring_Product_bool_1 (by kernel_rfl) (by kernel_rfl) (by intro c a d v w h; cases d <;> exact h) ?_; unfold o_semiring_Product_bool_1
  repeat (refine wpF_h rfl rfl (fun K hK => ?_); go_simp; refine hK _ _ ?_; clear hK K)
  refine wpF_o rfl rfl (fun K hK => ?_)
  go_simp
  refine (boolOne_any _).mono ?_
  rintro e w1 ⟨rfl, hb1⟩
  refine hK _ _ (.inr hb1) ?_
  clear hK K
  have hF : Fut w w1 := (Fut.refl w).drew.trans hb1
  refine wpF_o rfl rfl (fun K hK => ?_)
  go_simp
  refine (foldBool_any 45 "Mul" 39 (fun a b => a && b) (fun _ => True) (fun _ => True) m_Boolean_Mul c_Boolean_Mul (fun a b w _ _ => boolMul_any a b w) (fun _ _ _ _ => trivial) true A n c l _ ?_ HL.out hn HE.out (HR.out.fut hF)).mono ?_
  · first | trivial | decide | (constructor <;> decide)
  rintro e w2 ⟨rfl, hb2⟩
  refine hK _ _ (.inr hb2) ?_
  clear hK K
  repeat (refine wpF_h rfl rfl (fun K hK => ?_); go_simp; refine hK _ _ ?_; clear hK K)
  refine wpF_nil ?_
  go_wp2_with fail
  go_ret
  exact ⟨rfl, hF.trans hb2⟩

end Go.Proofs.Ytbkancahbcoedaa
