/-
  The run of emendate/dfa.Minimize, by the kernel.
-/
import Derived.Test.YtlgpacpebjechaaGreatDoorCk
import Derived.KernelRfl
namespace Go.Proofs.YtlgpacpebjechaaGreatDoor
namespace Ev
noncomputable def min0I : FuncId → Option (CF → List AV → Hp → K → Res) := intr
theorem min0_run : isN (callN fns min0I 400 66 min0A (litH min0L) (chkK min0L min0V min0N min0S)) = true := by kernel_rfl
theorem min0_chunk : Chunk 66 min0A min0L min0V min0N := chunk_of (callN_sound intr_sound 400) min0S (by kernel_rfl) min0_run
end Ev
end Go.Proofs.YtlgpacpebjechaaGreatDoor
