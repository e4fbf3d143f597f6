/-
  The run of emendate/dfa.Determinize, by the kernel.
-/
import Derived.Test.YtlgpacpebjechaaGreatDoorCkcls1
import Derived.KernelRfl
namespace Go.Proofs.YtlgpacpebjechaaGreatDoor
namespace Ev
theorem det1M84_ok : IntrOK Tryz.prog 84 (iMemo det1M84) := iMemo_ok _ (fun E hE => by
  simp only [det1M84, List.mem_cons, List.not_mem_nil, or_false] at hE
  rcases hE with rfl
  · exact cls1_chunk
)
noncomputable def det1I : FuncId → Option (CF → List AV → Hp → K → Res) := (intr2 84 (iMemo det1M84) intr)
theorem det1_run : isN (callN fns det1I 400 65 det1A (litH det1L) (chkK det1L det1V det1N det1S)) = true := by kernel_rfl
theorem det1_chunk : Chunk 65 det1A det1L det1V det1N := chunk_of (callN_sound (intr2_ok det1M84_ok intr_sound) 400) det1S (by kernel_rfl) det1_run
end Ev
end Go.Proofs.YtlgpacpebjechaaGreatDoor
