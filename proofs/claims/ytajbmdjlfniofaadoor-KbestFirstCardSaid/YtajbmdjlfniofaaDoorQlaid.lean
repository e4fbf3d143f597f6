/-
  The world in which the tables are laid.
-/
import Derived.Test.YtajbmdjlfniofaaDoorBM
import Derived.Test.YtajbmdjlfniofaaDoorCards
import Derived.LaidHandle
import Derived.LaidLaws
import Derived.Handed
import Derived.SevenTiedAt
namespace Go.Proofs.YtajbmdjlfniofaaDoor
open Go.ChangeShapes Go.WideShapes Go.ChangeAt Go.RowKit Go.Joins
/-- a table's cells -/
def tabCells : DataW Unit → Array Value
 | .agg l => (l.map fun | .lit (.int k v) => Value.int k v | _ => undef).toArray
 | _ => #[]
/-- the witness: the settled world, the tables laid -/
noncomputable def laidWorld (os : Os) : World :=
 let w0 := World.holding Tryd.prog os ⟨#[], #[], []⟩
 { w0 with heap := ((w0.heap.modify 0 fun
   | .cells _ t frozen => .cells (tabCells Rows.laid_internal_strconv_uint64pow10) t frozen
   | o => o).modify 1 fun
   | .cells _ t frozen => .cells (tabCells Rows.laid_math_bits_deBruijn32tab) t frozen
   | o => o).modify 2 fun
   | .cells _ t frozen => .cells (tabCells Rows.laid_math_bits_deBruijn64tab) t frozen
   | o => o }
theorem laid_met (os : Os) (args : Array Value) : laidMetH Tryd.prog Rows.kbestBestRow.laid ((laidWorld os).forCall (fun _ _ => 0) ⟨#[], args, []⟩).memory :=
 laidMetH_of_parts (laidMet_of_run (ps := (List.range 32).map (MemPlace.cell 1 ·) ++ (List.range 64).map (MemPlace.cell 2 ·) ++ (List.range 20).map (MemPlace.cell 0 ·)) 8 (by kernel_rfl) (by kernel_rfl) (by kernel_rfl)) (by kernel_rfl)
end Go.Proofs.YtajbmdjlfniofaaDoor
