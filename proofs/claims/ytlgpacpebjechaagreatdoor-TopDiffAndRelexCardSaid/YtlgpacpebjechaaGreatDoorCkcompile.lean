/-
  The run of emendate/lexspec.Compile, by the kernel.
-/
import Derived.Test.YtlgpacpebjechaaGreatDoorCkdet0
import Derived.Test.YtlgpacpebjechaaGreatDoorCkdet1
import Derived.Test.YtlgpacpebjechaaGreatDoorCkmin0
import Derived.Test.YtlgpacpebjechaaGreatDoorCkmin1
import Derived.KernelRfl
namespace Go.Proofs.YtlgpacpebjechaaGreatDoor
namespace Ev
theorem compileM65_ok : IntrOK Tryz.prog 65 (iMemo compileM65) := iMemo_ok _ (fun E hE => by
  simp only [compileM65, List.mem_cons, List.not_mem_nil, or_false] at hE
  rcases hE with rfl | rfl | rfl
  · exact det0_chunk
  · exact det1_chunk
  · exact det1_chunk
)
theorem compileM66_ok : IntrOK Tryz.prog 66 (iMemo compileM66) := iMemo_ok _ (fun E hE => by
  simp only [compileM66, List.mem_cons, List.not_mem_nil, or_false] at hE
  rcases hE with rfl | rfl | rfl
  · exact min0_chunk
  · exact min1_chunk
  · exact min1_chunk
)
noncomputable def compileI : FuncId → Option (CF → List AV → Hp → K → Res) := (intr2 66 (iMemo compileM66) (intr2 65 (iMemo compileM65) intr))
theorem compile_run : isN (callN fns compileI 400 7 compileA (litH compileL) (chkK compileL compileV compileN compileS)) = true := by kernel_rfl
theorem compile_chunk : Chunk 7 compileA compileL compileV compileN := chunk_of (callN_sound (intr2_ok compileM66_ok (intr2_ok compileM65_ok intr_sound)) 400) compileS (by kernel_rfl) compile_run
end Ev
end Go.Proofs.YtlgpacpebjechaaGreatDoor
