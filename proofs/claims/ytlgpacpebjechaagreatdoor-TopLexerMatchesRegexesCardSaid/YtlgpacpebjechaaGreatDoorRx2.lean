/-
  Derivatives, run by the kernel.
-/
import Derived.Test.YtlgpacpebjechaaGreatDoorRxd
import Derived.KernelRfl
namespace Go.Proofs.YtlgpacpebjechaaGreatDoor
namespace Ev
def dr2_0b : List Nat := [63, 64, 65, 66, 67, 68, 69, 70, 71, 72, 73, 74, 75, 76, 77, 78, 79, 80, 81, 82, 83, 84, 85, 86, 87, 88, 89, 90, 91, 92, 93, 94, 95, 96, 97, 98, 99, 100, 101, 102, 103, 104, 105, 106, 107, 108, 109, 110, 111, 112, 113, 114]
theorem dr2_0 : ∀ b ∈ dr2_0b, Trans 7 22 [rV9, cY b] rL9 rV8 rL8 := allB_trans (n := 400) (m := 7) (r := [qP 1, qP 2, qP 3, qP 4, qP 5, qP 6, qP 7]) (by kernel_rfl) (by kernel_rfl)
def dr2_1b : List Nat := [115, 116, 117, 118, 119, 120, 121, 122, 123, 124, 125, 126, 127, 128, 129, 130, 131, 132, 133, 134, 135, 136, 137, 138, 139, 140, 141, 142, 143, 144, 145, 146, 147, 148, 149, 150, 151, 152, 153, 154, 155, 156, 157, 158, 159, 160, 161, 162, 163, 164, 165, 166]
theorem dr2_1 : ∀ b ∈ dr2_1b, Trans 7 22 [rV9, cY b] rL9 rV8 rL8 := allB_trans (n := 400) (m := 7) (r := [qP 1, qP 2, qP 3, qP 4, qP 5, qP 6, qP 7]) (by kernel_rfl) (by kernel_rfl)
def dr2_2b : List Nat := [167, 168, 169, 170, 171, 172, 173, 174, 175, 176, 177, 178, 179, 180, 181, 182, 183, 184, 185, 186, 187, 188, 189, 190, 191, 192, 193, 194, 195, 196, 197, 198, 199, 200, 201, 202, 203, 204, 205, 206, 207, 208, 209, 210, 211, 212, 213, 214, 215, 216, 217, 218]
theorem dr2_2 : ∀ b ∈ dr2_2b, Trans 7 22 [rV9, cY b] rL9 rV8 rL8 := allB_trans (n := 400) (m := 7) (r := [qP 1, qP 2, qP 3, qP 4, qP 5, qP 6, qP 7]) (by kernel_rfl) (by kernel_rfl)
end Ev
end Go.Proofs.YtlgpacpebjechaaGreatDoor
