/-
  The run of emendate/byteset.Classes, by the kernel.
-/
import Derived.Test.YtlgpacpebjechaaGreatDoorCk
import Derived.KernelRfl
namespace Go.Proofs.YtlgpacpebjechaaGreatDoor
namespace Ev
noncomputable def cls0I : FuncId → Option (CF → List AV → Hp → K → Res) := intr
theorem cls0_run : isN (callN fns cls0I 400 84 cls0A (litH cls0L) (chkK cls0L cls0V cls0N cls0S)) = true := by kernel_rfl
theorem cls0_chunk : Chunk 84 cls0A cls0L cls0V cls0N := chunk_of (callN_sound intr_sound 400) cls0S (by kernel_rfl) cls0_run
end Ev
end Go.Proofs.YtlgpacpebjechaaGreatDoor
