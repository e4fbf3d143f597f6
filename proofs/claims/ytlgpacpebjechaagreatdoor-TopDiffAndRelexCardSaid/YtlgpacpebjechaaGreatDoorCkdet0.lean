/-
  The run of emendate/dfa.Determinize, by the kernel.
-/
import Derived.Test.YtlgpacpebjechaaGreatDoorCkcls0
import Derived.KernelRfl
namespace Go.Proofs.YtlgpacpebjechaaGreatDoor
namespace Ev
theorem det0M84_ok : IntrOK Tryz.prog 84 (iMemo det0M84) := iMemo_ok _ (fun E hE => by
  simp only [det0M84, List.mem_cons, List.not_mem_nil, or_false] at hE
  rcases hE with rfl
  · exact cls0_chunk
)
noncomputable def det0I : FuncId → Option (CF → List AV → Hp → K → Res) := (intr2 84 (iMemo det0M84) intr)
theorem det0_run : isN (callN fns det0I 400 65 det0A (litH det0L) (chkK det0L det0V det0N det0S)) = true := by kernel_rfl
theorem det0_chunk : Chunk 65 det0A det0L det0V det0N := chunk_of (callN_sound (intr2_ok det0M84_ok intr_sound) 400) det0S (by kernel_rfl) det0_run
end Ev
end Go.Proofs.YtlgpacpebjechaaGreatDoor
