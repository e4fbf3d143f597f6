/-
  The run of emendate/byteset.Classes, by the kernel.
-/
import Derived.Test.YtlgpacpebjechaaGreatDoorCk
import Derived.KernelRfl
namespace Go.Proofs.YtlgpacpebjechaaGreatDoor
namespace Ev
noncomputable def cls1I : FuncId → Option (CF → List AV → Hp → K → Res) := intr
theorem cls1_run : isN (callN fns cls1I 400 84 cls1A (litH cls1L) (chkK cls1L cls1V cls1N cls1S)) = true := by kernel_rfl
theorem cls1_chunk : Chunk 84 cls1A cls1L cls1V cls1N := chunk_of (callN_sound intr_sound 400) cls1S (by kernel_rfl) cls1_run
end Ev
end Go.Proofs.YtlgpacpebjechaaGreatDoor
