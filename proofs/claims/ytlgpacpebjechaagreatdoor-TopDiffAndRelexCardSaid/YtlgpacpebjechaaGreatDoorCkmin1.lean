/-
  The run of emendate/dfa.Minimize, by the kernel.
-/
import Derived.Test.YtlgpacpebjechaaGreatDoorCk
import Derived.KernelRfl
namespace Go.Proofs.YtlgpacpebjechaaGreatDoor
namespace Ev
noncomputable def min1I : FuncId → Option (CF → List AV → Hp → K → Res) := intr
theorem min1_run : isN (callN fns min1I 400 66 min1A (litH min1L) (chkK min1L min1V min1N min1S)) = true := by kernel_rfl
theorem min1_chunk : Chunk 66 min1A min1L min1V min1N := chunk_of (callN_sound intr_sound 400) min1S (by kernel_rfl) min1_run
end Ev
end Go.Proofs.YtlgpacpebjechaaGreatDoor
