/-
  Texts joined: The functions as combinators are what the compiler makes of the program; What the evaluator knows of some functions by itself: the search for a byte, the length of a number in bits, dfa.wide, the sorted keys of a set of numbers; The table of the functions; The evaluator's functions: each is what the evaluator takes it for (but those whose regions leave a choice); The function that is put off: as long as nothing panics it does nothing.
-/
import Derived.Test.YtlgpacpebjechaaGreatDoorEvA
import Derived.Test.YtlgpacpebjechaaGreatDoorBE
import Derived.KernelRfl
import Derived.Recover
import Derived.Tactics2
/-
  The functions as combinators are what the compiler makes of the program.
-/
namespace Go.Proofs.YtlgpacpebjechaaGreatDoor
namespace Ev
theorem c5 : cFunc Tryz.prog s5 Tryz.f5 = a5 := by kernel_rfl
theorem c6 : cFunc Tryz.prog s6 Tryz.f6 = a6 := by kernel_rfl
theorem c7 : cFunc Tryz.prog s7 Tryz.f7 = a7 := by kernel_rfl
theorem c8 : cFunc Tryz.prog s8 Tryz.f8 = a8 := by kernel_rfl
theorem c9 : cFunc Tryz.prog s9 Tryz.f9 = a9 := by kernel_rfl
theorem c15 : cFunc Tryz.prog s15 Tryz.f15 = a15 := by kernel_rfl
theorem c16 : cFunc Tryz.prog s16 Tryz.f16 = a16 := by kernel_rfl
theorem c17 : cFunc Tryz.prog s17 Tryz.f17 = a17 := by kernel_rfl
theorem c18 : cFunc Tryz.prog s18 Tryz.f18 = a18 := by kernel_rfl
theorem c19 : cFunc Tryz.prog s19 Tryz.f19 = a19 := by kernel_rfl
theorem c20 : cFunc Tryz.prog s20 Tryz.f20 = a20 := by kernel_rfl
theorem c21 : cFunc Tryz.prog s21 Tryz.f21 = a21 := by kernel_rfl
theorem c22 : cFunc Tryz.prog s22 Tryz.f22 = a22 := by kernel_rfl
theorem c23 : cFunc Tryz.prog s23 Tryz.f23 = a23 := by kernel_rfl
theorem c31 : cFunc Tryz.prog s31 Tryz.f31 = a31 := by kernel_rfl
theorem c32 : cFunc Tryz.prog s32 Tryz.f32 = a32 := by kernel_rfl
theorem c33 : cFunc Tryz.prog s33 Tryz.f33 = a33 := by kernel_rfl
theorem c34 : cFunc Tryz.prog s34 Tryz.f34 = a34 := by kernel_rfl
theorem c35 : cFunc Tryz.prog s35 Tryz.f35 = a35 := by kernel_rfl
theorem c36 : cFunc Tryz.prog s36 Tryz.f36 = a36 := by kernel_rfl
theorem c37 : cFunc Tryz.prog s37 Tryz.f37 = a37 := by kernel_rfl
theorem c38 : cFunc Tryz.prog s38 Tryz.f38 = a38 := by kernel_rfl
theorem c39 : cFunc Tryz.prog s39 Tryz.f39 = a39 := by kernel_rfl
theorem c40 : cFunc Tryz.prog s40 Tryz.f40 = a40 := by kernel_rfl
theorem c41 : cFunc Tryz.prog s41 Tryz.f41 = a41 := by kernel_rfl
theorem c42 : cFunc Tryz.prog s42 Tryz.f42 = a42 := by kernel_rfl
theorem c43 : cFunc Tryz.prog s43 Tryz.f43 = a43 := by kernel_rfl
theorem c44 : cFunc Tryz.prog s44 Tryz.f44 = a44 := by kernel_rfl
theorem c45 : cFunc Tryz.prog s45 Tryz.f45 = a45 := by kernel_rfl
theorem c49 : cFunc Tryz.prog s49 Tryz.f49 = a49 := by kernel_rfl
theorem c50 : cFunc Tryz.prog s50 Tryz.f50 = a50 := by kernel_rfl
theorem c51 : cFunc Tryz.prog s51 Tryz.f51 = a51 := by kernel_rfl
theorem c52 : cFunc Tryz.prog s52 Tryz.f52 = a52 := by kernel_rfl
theorem c53 : cFunc Tryz.prog s53 Tryz.f53 = a53 := by kernel_rfl
theorem c54 : cFunc Tryz.prog s54 Tryz.f54 = a54 := by kernel_rfl
theorem c55 : cFunc Tryz.prog s55 Tryz.f55 = a55 := by kernel_rfl
theorem c56 : cFunc Tryz.prog s56 Tryz.f56 = a56 := by kernel_rfl
theorem c57 : cFunc Tryz.prog s57 Tryz.f57 = a57 := by kernel_rfl
theorem c58 : cFunc Tryz.prog s58 Tryz.f58 = a58 := by kernel_rfl
theorem c59 : cFunc Tryz.prog s59 Tryz.f59 = a59 := by kernel_rfl
theorem c60 : cFunc Tryz.prog s60 Tryz.f60 = a60 := by kernel_rfl
theorem c61 : cFunc Tryz.prog s61 Tryz.f61 = a61 := by kernel_rfl
theorem c62 : cFunc Tryz.prog s62 Tryz.f62 = a62 := by kernel_rfl
theorem c63 : cFunc Tryz.prog s63 Tryz.f63 = a63 := by kernel_rfl
theorem c64 : cFunc Tryz.prog s64 Tryz.f64 = a64 := by kernel_rfl
theorem c65 : cFunc Tryz.prog s65 Tryz.f65 = a65 := by kernel_rfl
theorem c66 : cFunc Tryz.prog s66 Tryz.f66 = a66 := by kernel_rfl
theorem c67 : cFunc Tryz.prog s67 Tryz.f67 = a67 := by kernel_rfl
theorem c68 : cFunc Tryz.prog s68 Tryz.f68 = a68 := by kernel_rfl
theorem c69 : cFunc Tryz.prog s69 Tryz.f69 = a69 := by kernel_rfl
theorem c70 : cFunc Tryz.prog s70 Tryz.f70 = a70 := by kernel_rfl
theorem c71 : cFunc Tryz.prog s71 Tryz.f71 = a71 := by kernel_rfl
theorem c72 : cFunc Tryz.prog s72 Tryz.f72 = a72 := by kernel_rfl
theorem c74 : cFunc Tryz.prog s74 Tryz.f74 = a74 := by kernel_rfl
theorem c75 : cFunc Tryz.prog s75 Tryz.f75 = a75 := by kernel_rfl
theorem c76 : cFunc Tryz.prog s76 Tryz.f76 = a76 := by kernel_rfl
theorem c77 : cFunc Tryz.prog s77 Tryz.f77 = a77 := by kernel_rfl
theorem c78 : cFunc Tryz.prog s78 Tryz.f78 = a78 := by kernel_rfl
theorem c79 : cFunc Tryz.prog s79 Tryz.f79 = a79 := by kernel_rfl
theorem c80 : cFunc Tryz.prog s80 Tryz.f80 = a80 := by kernel_rfl
theorem c81 : cFunc Tryz.prog s81 Tryz.f81 = a81 := by kernel_rfl
theorem c82 : cFunc Tryz.prog s82 Tryz.f82 = a82 := by kernel_rfl
theorem c83 : cFunc Tryz.prog s83 Tryz.f83 = a83 := by kernel_rfl
theorem c84 : cFunc Tryz.prog s84 Tryz.f84 = a84 := by kernel_rfl
theorem c85 : cFunc Tryz.prog s85 Tryz.f85 = a85 := by kernel_rfl
theorem c86 : cFunc Tryz.prog s86 Tryz.f86 = a86 := by kernel_rfl
theorem c87 : cFunc Tryz.prog s87 Tryz.f87 = a87 := by kernel_rfl
theorem c88 : cFunc Tryz.prog s88 Tryz.f88 = a88 := by kernel_rfl
theorem c89 : cFunc Tryz.prog s89 Tryz.f89 = a89 := by kernel_rfl
theorem c90 : cFunc Tryz.prog s90 Tryz.f90 = a90 := by kernel_rfl
theorem c91 : cFunc Tryz.prog s91 Tryz.f91 = a91 := by kernel_rfl
theorem c92 : cFunc Tryz.prog s92 Tryz.f92 = a92 := by kernel_rfl
theorem c93 : cFunc Tryz.prog s93 Tryz.f93 = a93 := by kernel_rfl
theorem c94 : cFunc Tryz.prog s94 Tryz.f94 = a94 := by kernel_rfl
theorem c95 : cFunc Tryz.prog s95 Tryz.f95 = a95 := by kernel_rfl
theorem c96 : cFunc Tryz.prog s96 Tryz.f96 = a96 := by kernel_rfl
theorem c97 : cFunc Tryz.prog s97 Tryz.f97 = a97 := by kernel_rfl
theorem c98 : cFunc Tryz.prog s98 Tryz.f98 = a98 := by kernel_rfl
theorem c99 : cFunc Tryz.prog s99 Tryz.f99 = a99 := by kernel_rfl
theorem c100 : cFunc Tryz.prog s100 Tryz.f100 = a100 := by kernel_rfl
theorem c101 : cFunc Tryz.prog s101 Tryz.f101 = a101 := by kernel_rfl
theorem c102 : cFunc Tryz.prog s102 Tryz.f102 = a102 := by kernel_rfl
theorem c103 : cFunc Tryz.prog s103 Tryz.f103 = a103 := by kernel_rfl
theorem c104 : cFunc Tryz.prog s104 Tryz.f104 = a104 := by kernel_rfl
theorem c105 : cFunc Tryz.prog s105 Tryz.f105 = a105 := by kernel_rfl
theorem c106 : cFunc Tryz.prog s106 Tryz.f106 = a106 := by kernel_rfl
theorem c107 : cFunc Tryz.prog s107 Tryz.f107 = a107 := by kernel_rfl
theorem c108 : cFunc Tryz.prog s108 Tryz.f108 = a108 := by kernel_rfl
theorem c109 : cFunc Tryz.prog s109 Tryz.f109 = a109 := by kernel_rfl
theorem c110 : cFunc Tryz.prog s110 Tryz.f110 = a110 := by kernel_rfl
theorem c111 : cFunc Tryz.prog s111 Tryz.f111 = a111 := by kernel_rfl
theorem c112 : cFunc Tryz.prog s112 Tryz.f112 = a112 := by kernel_rfl
theorem c113 : cFunc Tryz.prog s113 Tryz.f113 = a113 := by kernel_rfl
theorem c114 : cFunc Tryz.prog s114 Tryz.f114 = a114 := by kernel_rfl
theorem c115 : cFunc Tryz.prog s115 Tryz.f115 = a115 := by kernel_rfl
theorem c116 : cFunc Tryz.prog s116 Tryz.f116 = a116 := by kernel_rfl
theorem c117 : cFunc Tryz.prog s117 Tryz.f117 = a117 := by kernel_rfl
theorem c118 : cFunc Tryz.prog s118 Tryz.f118 = a118 := by kernel_rfl
theorem c119 : cFunc Tryz.prog s119 Tryz.f119 = a119 := by kernel_rfl
theorem c120 : cFunc Tryz.prog s120 Tryz.f120 = a120 := by kernel_rfl
theorem c121 : cFunc Tryz.prog s121 Tryz.f121 = a121 := by kernel_rfl
theorem c122 : cFunc Tryz.prog s122 Tryz.f122 = a122 := by kernel_rfl
theorem c123 : cFunc Tryz.prog s123 Tryz.f123 = a123 := by kernel_rfl
theorem c124 : cFunc Tryz.prog s124 Tryz.f124 = a124 := by kernel_rfl
theorem c126 : cFunc Tryz.prog s126 Tryz.f126 = a126 := by kernel_rfl
theorem c127 : cFunc Tryz.prog s127 Tryz.f127 = a127 := by kernel_rfl
theorem c128 : cFunc Tryz.prog s128 Tryz.f128 = a128 := by kernel_rfl
theorem c129 : cFunc Tryz.prog s129 Tryz.f129 = a129 := by kernel_rfl
theorem c130 : cFunc Tryz.prog s130 Tryz.f130 = a130 := by kernel_rfl
theorem c131 : cFunc Tryz.prog s131 Tryz.f131 = a131 := by kernel_rfl
theorem c132 : cFunc Tryz.prog s132 Tryz.f132 = a132 := by kernel_rfl
theorem c133 : cFunc Tryz.prog s133 Tryz.f133 = a133 := by kernel_rfl
theorem c134 : cFunc Tryz.prog s134 Tryz.f134 = a134 := by kernel_rfl
theorem c135 : cFunc Tryz.prog s135 Tryz.f135 = a135 := by kernel_rfl
theorem c136 : cFunc Tryz.prog s136 Tryz.f136 = a136 := by kernel_rfl
theorem c142 : cFunc Tryz.prog s142 Tryz.f142 = a142 := by kernel_rfl
theorem c145 : cFunc Tryz.prog s145 Tryz.f145 = a145 := by kernel_rfl
theorem c146 : cFunc Tryz.prog s146 Tryz.f146 = a146 := by kernel_rfl
theorem c147 : cFunc Tryz.prog s147 Tryz.f147 = a147 := by kernel_rfl
theorem c148 : cFunc Tryz.prog s148 Tryz.f148 = a148 := by kernel_rfl
theorem c154 : cFunc Tryz.prog s154 Tryz.f154 = a154 := by kernel_rfl
end Ev
end Go.Proofs.YtlgpacpebjechaaGreatDoor
/-
  What the evaluator knows of some functions by itself: the search for a byte, the length of a number in bits, dfa.wide, the sorted keys of a set of numbers.
-/
namespace Go.Proofs.YtlgpacpebjechaaGreatDoor
namespace Ev
noncomputable def one {β : Type} (l : List AV) (no : β) (yes : AV → β) : β := List.rec (motive := fun _ => β) no (fun x r _ => List.rec (motive := fun _ => β) (yes x) (fun _ _ _ => no) r) l
noncomputable def two {β : Type} (l : List AV) (no : β) (yes : AV → AV → β) : β := List.rec (motive := fun _ => β) no (fun x r _ => one r no (fun y => yes x y)) l
noncomputable def idx (l : List Nat) (q : Nat) : Nat → Int := List.rec (motive := fun _ => Nat → Int) (fun _ => .negSucc 0) (fun x _ ih i => iff (Nat.beq x q) (ih (Nat.succ i)) (.ofNat i)) l
noncomputable def iIdx : CF → List AV → Hp → K → Res := fun _ args h k => two args .no (fun x y => onStr x .no (fun s => onInt y .no (fun j q => iff (kbeq j .u8) .no (Int.rec (motive := fun _ => Res) (fun q => iff (Nat.ble q 255) .no (k (.int .i64 (idx s q 0)) h)) (fun _ => .no) q))))
noncomputable def bitLen (n : Nat) : Nat := iff (Nat.beq n 0) (Nat.succ (Nat.log2 n)) 0
noncomputable def iLen : CF → List AV → Hp → K → Res := fun _ args h k => one args .no (fun x => onInt x .no (fun j m => iff (kbeq j .u64) .no (Int.rec (motive := fun _ => Res) (fun m => iff (Nat.ble m 18446744073709551615) .no (k (nI (bitLen m)) h)) (fun _ => .no) m)))
noncomputable def byteOf (n : Int) (j : Nat) : Nat := Int.rec (motive := fun _ => Nat) (fun m => Nat.mod (Nat.shiftRight m (Nat.mul 8 j)) 256) (fun m => Nat.sub 255 (Nat.mod (Nat.shiftRight m (Nat.mul 8 j)) 256)) n
noncomputable def byte8 (n : Int) (r : List Nat) : List Nat := byteOf n 0 :: byteOf n 1 :: byteOf n 2 :: byteOf n 3 :: byteOf n 4 :: byteOf n 5 :: byteOf n 6 :: byteOf n 7 :: r
noncomputable def intsOf (l : List AV) : Option (List Int) := List.rec (motive := fun _ => Option (List Int)) (some []) (fun x _ ih => onInt x none (fun j n => iff (kbeq j .i64) none (onOpt ih none (fun r => some (n :: r))))) l
noncomputable def wideL (l : List Int) : List Nat := List.rec (motive := fun _ => List Nat) [] (fun n _ ih => byte8 n ih) l
noncomputable def iWide : CF → List AV → Hp → K → Res := fun _ args h k => one args .no (fun x => onSlice x .no (k (.str []) h) .no .no (fun b o n _ => iff (Nat.ble n 1000) .no (onOpt (readn (asRow (hget h b)) n o) .no (fun l => onOpt (intsOf l) .no (fun m => k (.str (wideL m)) h)))))
/-! the sorted keys -/
noncomputable def ins (x : Int) (l : List Int) : List Int := List.rec (motive := fun _ => List Int) [x] (fun y r ih => iff (ile x y) (y :: ih) (x :: y :: r)) l
noncomputable def srt (l : List Int) : List Int := List.rec (motive := fun _ => List Int) [] (fun x _ ih => ins x ih) l
noncomputable def avs (l : List Int) : List AV := List.rec (motive := fun _ => List AV) [] (fun n _ ih => .int .i64 n :: ih) l
noncomputable def keysI (es : List (AV × AV)) : Option (List Int) := List.rec (motive := fun _ => Option (List Int)) (some []) (fun e _ ih => onInt e.1 none (fun j n => iff (kbeq j .i64) none (Int.rec (motive := fun _ => Option (List Int)) (fun m => iff (Nat.ble m 1000000) none (onOpt ih none (fun r => some (.ofNat m :: r)))) (fun _ => none) n))) es
noncomputable def iSorted : CF → List AV → Hp → K → Res := fun _ args h k => one args .no (fun x => onFn x .no (fun f a q => iff (Nat.beq f 111) .no (List.rec (motive := fun _ => Res) (one q .no (fun y => onPtr y .no (fun b o => iff (Nat.beq o 0) .no (onOpt (Tr.get (asRow (hget h b)) 0) .no (fun m => onMap m .no .no (fun b => onMapB (hget h b) .no (fun es _ =>
  iff (Nat.ble (lenE es) 1000) .no (onOpt (keysI es) .no (fun ks => List.rec (motive := fun _ => Res) (k .nils h)
    (fun _ _ _ => trk (avs (srt ks)) 0 .nil (fun n tr => hnew h (.row 1 n tr) (fun b h => k (.slice b 0 n 0) h))) ks))))))))) (fun _ _ _ => .no) a)))
noncomputable def intr (f : FuncId) : Option (CF → List AV → Hp → K → Res) :=
  iff (Nat.beq f 134) (iff (Nat.beq f 127) (iff (Nat.beq f 118) (iff (Nat.beq f 81) none (some iSorted)) (some iWide)) (some iLen)) (some iIdx)
end Ev
end Go.Proofs.YtlgpacpebjechaaGreatDoor
/-
  The table of the functions.
-/
namespace Go.Proofs.YtlgpacpebjechaaGreatDoor
namespace Ev
inductive FT where
  | nil
  | node (v : Option AF) (l r : FT)
noncomputable def FT.get (t : FT) : Nat → Option AF :=
  FT.rec (motive := fun _ => Nat → Option AF) (fun _ => none)
    (fun v _ _ gl gr n => iff (Nat.beq n 0) (iff (Nat.beq (Nat.land n 1) 1) (gr (Nat.sub (Nat.shiftRight n 1) 1)) (gl (Nat.shiftRight n 1))) v) t
noncomputable def tbl : FT := (.node none (.node none (.node none (.node (some a7) (.node (some a15) (.node (some a31) (.node (some a63) (.node (some a127) .nil .nil) .nil) (.node (some a95) .nil .nil)) (.node none (.node (some a79) .nil .nil) .nil)) (.node (some a23) (.node (some a39) (.node (some a71) (.node (some a135) .nil .nil) .nil) (.node (some a103) .nil .nil)) (.node (some a55) (.node (some a87) .nil .nil) (.node (some a119) .nil .nil)))) (.node none (.node (some a19) (.node (some a35) (.node (some a67) (.node (some a131) .nil .nil) .nil) (.node (some a99) .nil .nil)) (.node (some a51) (.node (some a83) (.node (some a147) .nil .nil) .nil) (.node (some a115) .nil .nil))) (.node none (.node (some a43) (.node (some a75) .nil .nil) (.node (some a107) .nil .nil)) (.node (some a59) (.node (some a91) .nil .nil) (.node (some a123) .nil .nil))))) (.node (some a5) (.node (some a9) (.node (some a17) (.node (some a33) (.node (some a65) (.node (some a129) .nil .nil) .nil) (.node (some a97) .nil .nil)) (.node (some a49) (.node (some a81) (.node (some a145) .nil .nil) .nil) (.node (some a113) .nil .nil))) (.node none (.node (some a41) .nil (.node (some a105) .nil .nil)) (.node (some a57) (.node (some a89) .nil .nil) (.node (some a121) .nil .nil)))) (.node none (.node (some a21) (.node (some a37) (.node (some a69) (.node (some a133) .nil .nil) .nil) (.node (some a101) .nil .nil)) (.node (some a53) (.node (some a85) .nil .nil) (.node (some a117) .nil .nil))) (.node none (.node (some a45) (.node (some a77) .nil .nil) (.node (some a109) .nil .nil)) (.node (some a61) (.node (some a93) .nil .nil) .nil))))) (.node none (.node none (.node (some a8) (.node (some a16) (.node (some a32) (.node (some a64) (.node (some a128) .nil .nil) .nil) (.node (some a96) .nil .nil)) (.node none (.node (some a80) .nil .nil) (.node (some a112) .nil .nil))) (.node none (.node (some a40) (.node (some a72) (.node (some a136) .nil .nil) .nil) (.node (some a104) .nil .nil)) (.node (some a56) (.node (some a88) .nil .nil) (.node (some a120) .nil .nil)))) (.node none (.node (some a20) (.node (some a36) (.node (some a68) (.node (some a132) .nil .nil) .nil) (.node (some a100) .nil .nil)) (.node (some a52) (.node (some a84) (.node (some a148) .nil .nil) .nil) (.node (some a116) .nil .nil))) (.node none (.node (some a44) (.node (some a76) .nil .nil) (.node (some a108) .nil .nil)) (.node (some a60) (.node (some a92) .nil .nil) (.node (some a124) .nil .nil))))) (.node (some a6) (.node none (.node none (.node (some a34) (.node (some a66) (.node (some a130) .nil .nil) .nil) (.node (some a98) .nil .nil)) (.node (some a50) (.node (some a82) (.node (some a146) .nil .nil) .nil) (.node (some a114) .nil .nil))) (.node none (.node (some a42) (.node (some a74) .nil .nil) (.node (some a106) .nil .nil)) (.node (some a58) (.node (some a90) (.node (some a154) .nil .nil) .nil) (.node (some a122) .nil .nil)))) (.node none (.node (some a22) (.node (some a38) (.node (some a70) (.node (some a134) .nil .nil) .nil) (.node (some a102) .nil .nil)) (.node (some a54) (.node (some a86) .nil .nil) (.node (some a118) .nil .nil))) (.node none (.node none (.node (some a78) (.node (some a142) .nil .nil) .nil) (.node (some a110) .nil .nil)) (.node (some a62) (.node (some a94) .nil .nil) (.node (some a126) .nil .nil)))))))
noncomputable def fns (f : FuncId) : Option AF := FT.get tbl f
end Ev
end Go.Proofs.YtlgpacpebjechaaGreatDoor
/-
  The evaluator's functions: each is what the evaluator takes it for (but those whose regions leave a choice).
-/
namespace Go.Proofs.YtlgpacpebjechaaGreatDoor
open Go.RowKit Go.Deep Go.Sort
namespace Ev
theorem ok5 : FnOK Tryz.prog 5 a5 := FnOK.plain flats mixed Tryz.func5 (by kernel_rfl) c5 (by kernel_rfl)
theorem ok6 : FnOK Tryz.prog 6 a6 := FnOK.plain flats mixed Tryz.func6 (by kernel_rfl) c6 (by kernel_rfl)
theorem ok7 : FnOK Tryz.prog 7 a7 := FnOK.plain flats mixed Tryz.func7 (by kernel_rfl) c7 (by kernel_rfl)
theorem ok8 : FnOK Tryz.prog 8 a8 := FnOK.plain flats mixed Tryz.func8 (by kernel_rfl) c8 (by kernel_rfl)
theorem ok9 : FnOK Tryz.prog 9 a9 := FnOK.plain flats mixed Tryz.func9 (by kernel_rfl) c9 (by kernel_rfl)
theorem ok15 : FnOK Tryz.prog 15 a15 := FnOK.plain flats mixed Tryz.func15 (by kernel_rfl) c15 (by kernel_rfl)
theorem ok16 : FnOK Tryz.prog 16 a16 := FnOK.plain flats mixed Tryz.func16 (by kernel_rfl) c16 (by kernel_rfl)
theorem ok17 : FnOK Tryz.prog 17 a17 := FnOK.plain flats mixed Tryz.func17 (by kernel_rfl) c17 (by kernel_rfl)
theorem ok19 : FnOK Tryz.prog 19 a19 := FnOK.plain flats mixed Tryz.func19 (by kernel_rfl) c19 (by kernel_rfl)
theorem ok20 : FnOK Tryz.prog 20 a20 := FnOK.plain flats mixed Tryz.func20 (by kernel_rfl) c20 (by kernel_rfl)
theorem ok21 : FnOK Tryz.prog 21 a21 := FnOK.plain flats mixed Tryz.func21 (by kernel_rfl) c21 (by kernel_rfl)
theorem ok22 : FnOK Tryz.prog 22 a22 := FnOK.plain flats mixed Tryz.func22 (by kernel_rfl) c22 (by kernel_rfl)
theorem ok23 : FnOK Tryz.prog 23 a23 := FnOK.plain flats mixed Tryz.func23 (by kernel_rfl) c23 (by kernel_rfl)
theorem ok32 : FnOK Tryz.prog 32 a32 := FnOK.plain flats mixed Tryz.func32 (by kernel_rfl) c32 (by kernel_rfl)
theorem ok33 : FnOK Tryz.prog 33 a33 := FnOK.plain flats mixed Tryz.func33 (by kernel_rfl) c33 (by kernel_rfl)
theorem ok34 : FnOK Tryz.prog 34 a34 := FnOK.plain flats mixed Tryz.func34 (by kernel_rfl) c34 (by kernel_rfl)
theorem ok35 : FnOK Tryz.prog 35 a35 := FnOK.plain flats mixed Tryz.func35 (by kernel_rfl) c35 (by kernel_rfl)
theorem ok36 : FnOK Tryz.prog 36 a36 := FnOK.plain flats mixed Tryz.func36 (by kernel_rfl) c36 (by kernel_rfl)
theorem ok37 : FnOK Tryz.prog 37 a37 := FnOK.plain flats mixed Tryz.func37 (by kernel_rfl) c37 (by kernel_rfl)
theorem ok38 : FnOK Tryz.prog 38 a38 := FnOK.plain flats mixed Tryz.func38 (by kernel_rfl) c38 (by kernel_rfl)
theorem ok39 : FnOK Tryz.prog 39 a39 := FnOK.plain flats mixed Tryz.func39 (by kernel_rfl) c39 (by kernel_rfl)
theorem ok40 : FnOK Tryz.prog 40 a40 := FnOK.plain flats mixed Tryz.func40 (by kernel_rfl) c40 (by kernel_rfl)
theorem ok41 : FnOK Tryz.prog 41 a41 := FnOK.plain flats mixed Tryz.func41 (by kernel_rfl) c41 (by kernel_rfl)
theorem ok42 : FnOK Tryz.prog 42 a42 := FnOK.plain flats mixed Tryz.func42 (by kernel_rfl) c42 (by kernel_rfl)
theorem ok43 : FnOK Tryz.prog 43 a43 := FnOK.plain flats mixed Tryz.func43 (by kernel_rfl) c43 (by kernel_rfl)
theorem ok44 : FnOK Tryz.prog 44 a44 := FnOK.plain flats mixed Tryz.func44 (by kernel_rfl) c44 (by kernel_rfl)
theorem ok45 : FnOK Tryz.prog 45 a45 := FnOK.plain flats mixed Tryz.func45 (by kernel_rfl) c45 (by kernel_rfl)
theorem ok49 : FnOK Tryz.prog 49 a49 := FnOK.plain flats mixed Tryz.func49 (by kernel_rfl) c49 (by kernel_rfl)
theorem ok50 : FnOK Tryz.prog 50 a50 := FnOK.plain flats mixed Tryz.func50 (by kernel_rfl) c50 (by kernel_rfl)
theorem ok51 : FnOK Tryz.prog 51 a51 := FnOK.plain flats mixed Tryz.func51 (by kernel_rfl) c51 (by kernel_rfl)
theorem ok52 : FnOK Tryz.prog 52 a52 := FnOK.plain flats mixed Tryz.func52 (by kernel_rfl) c52 (by kernel_rfl)
theorem ok53 : FnOK Tryz.prog 53 a53 := FnOK.plain flats mixed Tryz.func53 (by kernel_rfl) c53 (by kernel_rfl)
theorem ok54 : FnOK Tryz.prog 54 a54 := FnOK.plain flats mixed Tryz.func54 (by kernel_rfl) c54 (by kernel_rfl)
theorem ok55 : FnOK Tryz.prog 55 a55 := FnOK.plain flats mixed Tryz.func55 (by kernel_rfl) c55 (by kernel_rfl)
theorem ok56 : FnOK Tryz.prog 56 a56 := FnOK.plain flats mixed Tryz.func56 (by kernel_rfl) c56 (by kernel_rfl)
theorem ok57 : FnOK Tryz.prog 57 a57 := FnOK.plain flats mixed Tryz.func57 (by kernel_rfl) c57 (by kernel_rfl)
theorem ok58 : FnOK Tryz.prog 58 a58 := FnOK.plain flats mixed Tryz.func58 (by kernel_rfl) c58 (by kernel_rfl)
theorem ok59 : FnOK Tryz.prog 59 a59 := FnOK.plain flats mixed Tryz.func59 (by kernel_rfl) c59 (by kernel_rfl)
theorem ok60 : FnOK Tryz.prog 60 a60 := FnOK.plain flats mixed Tryz.func60 (by kernel_rfl) c60 (by kernel_rfl)
theorem ok61 : FnOK Tryz.prog 61 a61 := FnOK.plain flats mixed Tryz.func61 (by kernel_rfl) c61 (by kernel_rfl)
theorem ok62 : FnOK Tryz.prog 62 a62 := FnOK.plain flats mixed Tryz.func62 (by kernel_rfl) c62 (by kernel_rfl)
theorem ok63 : FnOK Tryz.prog 63 a63 := FnOK.plain flats mixed Tryz.func63 (by kernel_rfl) c63 (by kernel_rfl)
theorem ok64 : FnOK Tryz.prog 64 a64 := FnOK.plain flats mixed Tryz.func64 (by kernel_rfl) c64 (by kernel_rfl)
theorem ok65 : FnOK Tryz.prog 65 a65 := FnOK.plain flats mixed Tryz.func65 (by kernel_rfl) c65 (by kernel_rfl)
theorem ok67 : FnOK Tryz.prog 67 a67 := FnOK.plain flats mixed Tryz.func67 (by kernel_rfl) c67 (by kernel_rfl)
theorem ok68 : FnOK Tryz.prog 68 a68 := FnOK.plain flats mixed Tryz.func68 (by kernel_rfl) c68 (by kernel_rfl)
theorem ok69 : FnOK Tryz.prog 69 a69 := FnOK.plain flats mixed Tryz.func69 (by kernel_rfl) c69 (by kernel_rfl)
theorem ok71 : FnOK Tryz.prog 71 a71 := FnOK.plain flats mixed Tryz.func71 (by kernel_rfl) c71 (by kernel_rfl)
theorem ok72 : FnOK Tryz.prog 72 a72 := FnOK.plain flats mixed Tryz.func72 (by kernel_rfl) c72 (by kernel_rfl)
theorem ok74 : FnOK Tryz.prog 74 a74 := FnOK.plain flats mixed Tryz.func74 (by kernel_rfl) c74 (by kernel_rfl)
theorem ok75 : FnOK Tryz.prog 75 a75 := FnOK.plain flats mixed Tryz.func75 (by kernel_rfl) c75 (by kernel_rfl)
theorem ok76 : FnOK Tryz.prog 76 a76 := FnOK.plain flats mixed Tryz.func76 (by kernel_rfl) c76 (by kernel_rfl)
theorem ok77 : FnOK Tryz.prog 77 a77 := FnOK.plain flats mixed Tryz.func77 (by kernel_rfl) c77 (by kernel_rfl)
theorem ok78 : FnOK Tryz.prog 78 a78 := FnOK.plain flats mixed Tryz.func78 (by kernel_rfl) c78 (by kernel_rfl)
theorem ok79 : FnOK Tryz.prog 79 a79 := FnOK.plain flats mixed Tryz.func79 (by kernel_rfl) c79 (by kernel_rfl)
theorem ok80 : FnOK Tryz.prog 80 a80 := FnOK.plain flats mixed Tryz.func80 (by kernel_rfl) c80 (by kernel_rfl)
theorem ok81 : FnOK Tryz.prog 81 a81 := FnOK.plain flats mixed Tryz.func81 (by kernel_rfl) c81 (by kernel_rfl)
theorem ok82 : FnOK Tryz.prog 82 a82 := FnOK.plain flats mixed Tryz.func82 (by kernel_rfl) c82 (by kernel_rfl)
theorem ok83 : FnOK Tryz.prog 83 a83 := FnOK.plain flats mixed Tryz.func83 (by kernel_rfl) c83 (by kernel_rfl)
theorem ok84 : FnOK Tryz.prog 84 a84 := FnOK.plain flats mixed Tryz.func84 (by kernel_rfl) c84 (by kernel_rfl)
theorem ok85 : FnOK Tryz.prog 85 a85 := FnOK.plain flats mixed Tryz.func85 (by kernel_rfl) c85 (by kernel_rfl)
theorem ok86 : FnOK Tryz.prog 86 a86 := FnOK.plain flats mixed Tryz.func86 (by kernel_rfl) c86 (by kernel_rfl)
theorem ok87 : FnOK Tryz.prog 87 a87 := FnOK.plain flats mixed Tryz.func87 (by kernel_rfl) c87 (by kernel_rfl)
theorem ok88 : FnOK Tryz.prog 88 a88 := FnOK.plain flats mixed Tryz.func88 (by kernel_rfl) c88 (by kernel_rfl)
theorem ok89 : FnOK Tryz.prog 89 a89 := FnOK.plain flats mixed Tryz.func89 (by kernel_rfl) c89 (by kernel_rfl)
theorem ok90 : FnOK Tryz.prog 90 a90 := FnOK.plain flats mixed Tryz.func90 (by kernel_rfl) c90 (by kernel_rfl)
theorem ok92 : FnOK Tryz.prog 92 a92 := FnOK.plain flats mixed Tryz.func92 (by kernel_rfl) c92 (by kernel_rfl)
theorem ok93 : FnOK Tryz.prog 93 a93 := FnOK.plain flats mixed Tryz.func93 (by kernel_rfl) c93 (by kernel_rfl)
theorem ok94 : FnOK Tryz.prog 94 a94 := FnOK.plain flats mixed Tryz.func94 (by kernel_rfl) c94 (by kernel_rfl)
theorem ok95 : FnOK Tryz.prog 95 a95 := FnOK.plain flats mixed Tryz.func95 (by kernel_rfl) c95 (by kernel_rfl)
theorem ok96 : FnOK Tryz.prog 96 a96 := FnOK.plain flats mixed Tryz.func96 (by kernel_rfl) c96 (by kernel_rfl)
theorem ok97 : FnOK Tryz.prog 97 a97 := FnOK.plain flats mixed Tryz.func97 (by kernel_rfl) c97 (by kernel_rfl)
theorem ok98 : FnOK Tryz.prog 98 a98 := FnOK.plain flats mixed Tryz.func98 (by kernel_rfl) c98 (by kernel_rfl)
theorem ok99 : FnOK Tryz.prog 99 a99 := FnOK.plain flats mixed Tryz.func99 (by kernel_rfl) c99 (by kernel_rfl)
theorem ok100 : FnOK Tryz.prog 100 a100 := FnOK.plain flats mixed Tryz.func100 (by kernel_rfl) c100 (by kernel_rfl)
theorem ok101 : FnOK Tryz.prog 101 a101 := FnOK.plain flats mixed Tryz.func101 (by kernel_rfl) c101 (by kernel_rfl)
theorem ok102 : FnOK Tryz.prog 102 a102 := FnOK.plain flats mixed Tryz.func102 (by kernel_rfl) c102 (by kernel_rfl)
theorem ok103 : FnOK Tryz.prog 103 a103 := FnOK.plain flats mixed Tryz.func103 (by kernel_rfl) c103 (by kernel_rfl)
theorem ok104 : FnOK Tryz.prog 104 a104 := FnOK.plain flats mixed Tryz.func104 (by kernel_rfl) c104 (by kernel_rfl)
theorem ok105 : FnOK Tryz.prog 105 a105 := FnOK.plain flats mixed Tryz.func105 (by kernel_rfl) c105 (by kernel_rfl)
theorem ok106 : FnOK Tryz.prog 106 a106 := FnOK.plain flats mixed Tryz.func106 (by kernel_rfl) c106 (by kernel_rfl)
theorem ok108 : FnOK Tryz.prog 108 a108 := FnOK.plain flats mixed Tryz.func108 (by kernel_rfl) c108 (by kernel_rfl)
theorem ok109 : FnOK Tryz.prog 109 a109 := FnOK.plain flats mixed Tryz.func109 (by kernel_rfl) c109 (by kernel_rfl)
theorem ok110 : FnOK Tryz.prog 110 a110 := FnOK.plain flats mixed Tryz.func110 (by kernel_rfl) c110 (by kernel_rfl)
theorem ok112 : FnOK Tryz.prog 112 a112 := FnOK.plain flats mixed Tryz.func112 (by kernel_rfl) c112 (by kernel_rfl)
theorem ok113 : FnOK Tryz.prog 113 a113 := FnOK.plain flats mixed Tryz.func113 (by kernel_rfl) c113 (by kernel_rfl)
theorem ok114 : FnOK Tryz.prog 114 a114 := FnOK.plain flats mixed Tryz.func114 (by kernel_rfl) c114 (by kernel_rfl)
theorem ok115 : FnOK Tryz.prog 115 a115 := FnOK.plain flats mixed Tryz.func115 (by kernel_rfl) c115 (by kernel_rfl)
theorem ok116 : FnOK Tryz.prog 116 a116 := FnOK.plain flats mixed Tryz.func116 (by kernel_rfl) c116 (by kernel_rfl)
theorem ok117 : FnOK Tryz.prog 117 a117 := FnOK.plain flats mixed Tryz.func117 (by kernel_rfl) c117 (by kernel_rfl)
theorem ok118 : FnOK Tryz.prog 118 a118 := FnOK.plain flats mixed Tryz.func118 (by kernel_rfl) c118 (by kernel_rfl)
theorem ok119 : FnOK Tryz.prog 119 a119 := FnOK.plain flats mixed Tryz.func119 (by kernel_rfl) c119 (by kernel_rfl)
theorem ok120 : FnOK Tryz.prog 120 a120 := FnOK.plain flats mixed Tryz.func120 (by kernel_rfl) c120 (by kernel_rfl)
theorem ok121 : FnOK Tryz.prog 121 a121 := FnOK.plain flats mixed Tryz.func121 (by kernel_rfl) c121 (by kernel_rfl)
theorem ok122 : FnOK Tryz.prog 122 a122 := FnOK.plain flats mixed Tryz.func122 (by kernel_rfl) c122 (by kernel_rfl)
theorem ok123 : FnOK Tryz.prog 123 a123 := FnOK.plain flats mixed Tryz.func123 (by kernel_rfl) c123 (by kernel_rfl)
theorem ok124 : FnOK Tryz.prog 124 a124 := FnOK.plain flats mixed Tryz.func124 (by kernel_rfl) c124 (by kernel_rfl)
theorem ok126 : FnOK Tryz.prog 126 a126 := FnOK.plain flats mixed Tryz.func126 (by kernel_rfl) c126 (by kernel_rfl)
theorem ok127 : FnOK Tryz.prog 127 a127 := FnOK.plain flats mixed Tryz.func127 (by kernel_rfl) c127 (by kernel_rfl)
theorem ok128 : FnOK Tryz.prog 128 a128 := FnOK.plain flats mixed Tryz.func128 (by kernel_rfl) c128 (by kernel_rfl)
theorem ok129 : FnOK Tryz.prog 129 a129 := FnOK.plain flats mixed Tryz.func129 (by kernel_rfl) c129 (by kernel_rfl)
theorem ok130 : FnOK Tryz.prog 130 a130 := FnOK.plain flats mixed Tryz.func130 (by kernel_rfl) c130 (by kernel_rfl)
theorem ok131 : FnOK Tryz.prog 131 a131 := FnOK.plain flats mixed Tryz.func131 (by kernel_rfl) c131 (by kernel_rfl)
theorem ok132 : FnOK Tryz.prog 132 a132 := FnOK.plain flats mixed Tryz.func132 (by kernel_rfl) c132 (by kernel_rfl)
theorem ok133 : FnOK Tryz.prog 133 a133 := FnOK.plain flats mixed Tryz.func133 (by kernel_rfl) c133 (by kernel_rfl)
theorem ok134 : FnOK Tryz.prog 134 a134 := FnOK.plain flats mixed Tryz.func134 (by kernel_rfl) c134 (by kernel_rfl)
theorem ok135 : FnOK Tryz.prog 135 a135 := FnOK.plain flats mixed Tryz.func135 (by kernel_rfl) c135 (by kernel_rfl)
theorem ok136 : FnOK Tryz.prog 136 a136 := FnOK.plain flats mixed Tryz.func136 (by kernel_rfl) c136 (by kernel_rfl)
theorem ok142 : FnOK Tryz.prog 142 a142 := FnOK.plain flats mixed Tryz.func142 (by kernel_rfl) c142 (by kernel_rfl)
theorem ok145 : FnOK Tryz.prog 145 a145 := FnOK.plain flats mixed Tryz.func145 (by kernel_rfl) c145 (by kernel_rfl)
theorem ok146 : FnOK Tryz.prog 146 a146 := FnOK.plain flats mixed Tryz.func146 (by kernel_rfl) c146 (by kernel_rfl)
theorem ok147 : FnOK Tryz.prog 147 a147 := FnOK.plain flats mixed Tryz.func147 (by kernel_rfl) c147 (by kernel_rfl)
theorem ok148 : FnOK Tryz.prog 148 a148 := FnOK.plain flats mixed Tryz.func148 (by kernel_rfl) c148 (by kernel_rfl)
theorem ok154 : FnOK Tryz.prog 154 a154 := FnOK.plain flats mixed Tryz.func154 (by kernel_rfl) c154 (by kernel_rfl)
end Ev
end Go.Proofs.YtlgpacpebjechaaGreatDoor
/-
  The function that is put off: as long as nothing panics it does nothing.
-/
namespace Go.Proofs.YtlgpacpebjechaaGreatDoor
open Go.RowKit Go.Deep Go.Sort
namespace Ev
theorem idle : Idle Tryz.prog := by
  refine ⟨⟨_, _, Tryz.func18, by kernel_rfl, rfl⟩, fun ws w K hw hK => ?_⟩
  obtain ⟨x, y, z, rfl⟩ : ∃ x y z, ws = #[x, y, z] := by
    obtain ⟨l⟩ := ws
    match l, hw with
    | [x, y, z], _ => exact ⟨x, y, z, rfl⟩
  refine callsD_of_wpS Tryz.func18 rfl fun c₀ cs hu => ?_
  apply wpS_seq
  apply wpS_region
  simp [wpOpsS, go_sem, recoverD, hu, Tryz.ntmps18, Exit.thenS]
  apply wpS_seq
  apply wpS_region
  simp [wpOpsS, go_sem, recoverD, hu, Exit.thenS]
  refine wpS_cond (t := false) (by simp [Act.eval, Array.replicate]) ?_
  simp only [Bool.false_eq_true, if_false]
  refine wpS_of_wp (wp_skip ?_)
  cases c₀
  simp_all [bodyPostS, results, Tryz.results18]
end Ev
end Go.Proofs.YtlgpacpebjechaaGreatDoor
