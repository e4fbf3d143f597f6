/-
  The run of emendate/emendatetop.words, by the kernel.
-/
import Derived.Test.YtlgpacpebjechaaGreatDoorCk
import Derived.KernelRfl
namespace Go.Proofs.YtlgpacpebjechaaGreatDoor
namespace Ev
noncomputable def wordsI : FuncId → Option (CF → List AV → Hp → K → Res) := intr
theorem words_run : isN (callN fns wordsI 400 6 wordsA (litH wordsL) (chkK wordsL wordsV wordsN wordsS)) = true := by kernel_rfl
theorem words_chunk : Chunk 6 wordsA wordsL wordsV wordsN := chunk_of (callN_sound intr_sound 400) wordsS (by kernel_rfl) words_run
end Ev
end Go.Proofs.YtlgpacpebjechaaGreatDoor
