/-
  The run of emendate/emendatetop.awake25, by the kernel.
-/
import Derived.Test.YtlgpacpebjechaaGreatDoorCkcompile
import Derived.KernelRfl
namespace Go.Proofs.YtlgpacpebjechaaGreatDoor
namespace Ev
theorem awakeM7_ok : IntrOK Tryz.prog 7 (iMemo awakeM7) := iMemo_ok _ (fun E hE => by
  simp only [awakeM7, List.mem_cons, List.not_mem_nil, or_false] at hE
  rcases hE with rfl
  · exact compile_chunk
)
noncomputable def awakeI : FuncId → Option (CF → List AV → Hp → K → Res) := (intr2 7 (iMemo awakeM7) intr)
theorem awake_run : isN (callN fns awakeI 400 5 awakeA (litH awakeL) (chkK awakeL awakeV awakeN awakeS)) = true := by kernel_rfl
theorem awake_chunk : Chunk 5 awakeA awakeL awakeV awakeN := chunk_of (callN_sound (intr2_ok awakeM7_ok intr_sound) 400) awakeS (by kernel_rfl) awake_run
end Ev
end Go.Proofs.YtlgpacpebjechaaGreatDoor
