/-
  NARROWER THAN 'FOR EVERY INPUT', by the rows' own cells (each row's printed sentence says how): InsertionLowerBound: loops.
  DERIVED. THE GIVEN ROWS OF THIS SEAT. 6 by the template 'for every input the law returns true; each argument reads behind the call as it read before'; 0 by the template 'total and deterministic' (their statements: YtleapckcihcpaaaTotals.lean).
  GIVEN WITH THE SEED: the statements are not yours to turn. If you find one false, say at which input.
  Laid BY PROGRAM, IN A SANDBOX (cutbox-rows.mjs): the forced cells as the released guide's own fill.sh prints them over the translation 39663f92a9afc92c… (all of the seat's roots in one cut). By AI agents, Wed Nov 11 2026. No macro, syntax, notation, axiom, sorry.
-/
import Derived.Test.YtleapckcihcpaaaChecked
import GoSem.Claim
import GoSem.ClaimJoined
import GoSem.ClaimMapViews
import Derived.JoinedTies
import Derived.KernelRfl
namespace Go.Proofs.Ytleapckcihcpaaa
/- THE CELL 'sum', in the pinned program and in every row, IS THE sha256 OF THE DUMP (.gsa) THAT YtleapckcihcpaaaProg.lean LOADS. Nothing in Lean hashes anything: it is a label: what it is worth is what the hold of that sum in a sandbox is worth. -/
noncomputable def Try.pinned : Pinned := { name := "ytleapckcihcpaaa", sum := "39663f92a9afc92c64674a53d75ac496ae1d162ac504629440549d6f7c7eb901", checked := Try.checked }
namespace Rows
def none {H : Type} : Left H := { results := [], args := [] }

/-- 'emendatelaw38.InsertionValues': WHATEVER THE INPUT: true; the input reads as it did. -/
def insertionValuesSpec : ChangeSpec := { name := "insertionValues", fn := fun _ => fun
  | [d1, d2] => { results := [.lit (.bool true)], args := [d1, d2] }
  | _ => none }
def insertionValuesRow : OpenClaim := { program := "ytleapckcihcpaaa", sum := "39663f92a9afc92c64674a53d75ac496ae1d162ac504629440549d6f7c7eb901", func := "emendate/emendatelaw38.InsertionValues", spec := "insertionValues", unfollowed := true, recurses := true, apart := false }
def InsertionValuesSaid : Prop := insertionValuesRow.holds Try.pinned (OpenSpec.ofChange insertionValuesSpec)

/-- ITS FALSE NEIGHBOUR: 'it returns false'. Refute it at one input. -/
def insertionValuesWrong : ChangeSpec := { name := "insertionValues", fn := fun _ => fun
  | [d1, d2] => { results := [.lit (.bool false)], args := [d1, d2] }
  | _ => none }
def InsertionValuesWrongFalsely : Prop := insertionValuesRow.holds Try.pinned (OpenSpec.ofChange insertionValuesWrong)

/-- 'emendatelaw38.InsertionParse': WHATEVER THE INPUT: true; the input reads as it did. -/
def insertionParseSpec : ChangeSpec := { name := "insertionParse", fn := fun _ => fun
  | [d1, d2, d3] => { results := [.lit (.bool true)], args := [d1, d2, d3] }
  | _ => none }
def insertionParseRow : OpenClaim := { program := "ytleapckcihcpaaa", sum := "39663f92a9afc92c64674a53d75ac496ae1d162ac504629440549d6f7c7eb901", func := "emendate/emendatelaw38.InsertionParse", spec := "insertionParse", unfollowed := true, recurses := true, apart := false }
def InsertionParseSaid : Prop := insertionParseRow.holds Try.pinned (OpenSpec.ofChange insertionParseSpec)

/-- ITS FALSE NEIGHBOUR: 'it returns false'. Refute it at one input. -/
def insertionParseWrong : ChangeSpec := { name := "insertionParse", fn := fun _ => fun
  | [d1, d2, d3] => { results := [.lit (.bool false)], args := [d1, d2, d3] }
  | _ => none }
def InsertionParseWrongFalsely : Prop := insertionParseRow.holds Try.pinned (OpenSpec.ofChange insertionParseWrong)

/-- 'emendatelaw38.InsertionAttained': WHATEVER THE INPUT: true; the input reads as it did. -/
def insertionAttainedSpec : ChangeSpec := { name := "insertionAttained", fn := fun _ => fun
  | [d1, d2, d3] => { results := [.lit (.bool true)], args := [d1, d2, d3] }
  | _ => none }
def insertionAttainedRow : OpenClaim := { program := "ytleapckcihcpaaa", sum := "39663f92a9afc92c64674a53d75ac496ae1d162ac504629440549d6f7c7eb901", func := "emendate/emendatelaw38.InsertionAttained", spec := "insertionAttained", unfollowed := true, recurses := true, apart := false }
def InsertionAttainedSaid : Prop := insertionAttainedRow.holds Try.pinned (OpenSpec.ofChange insertionAttainedSpec)

/-- ITS FALSE NEIGHBOUR: 'it returns false'. Refute it at one input. -/
def insertionAttainedWrong : ChangeSpec := { name := "insertionAttained", fn := fun _ => fun
  | [d1, d2, d3] => { results := [.lit (.bool false)], args := [d1, d2, d3] }
  | _ => none }
def InsertionAttainedWrongFalsely : Prop := insertionAttainedRow.holds Try.pinned (OpenSpec.ofChange insertionAttainedWrong)

/-- 'emendatelaw38.InsertionLowerBound': WHATEVER THE INPUT: true; the input reads as it did. -/
def insertionLowerBoundSpec : ChangeSpec := { name := "insertionLowerBound", fn := fun _ => fun
  | [d1, d2, d3] => { results := [.lit (.bool true)], args := [d1, d2, d3] }
  | _ => none }
def insertionLowerBoundRow : OpenClaim := { program := "ytleapckcihcpaaa", sum := "39663f92a9afc92c64674a53d75ac496ae1d162ac504629440549d6f7c7eb901", func := "emendate/emendatelaw38.InsertionLowerBound", spec := "insertionLowerBound", unfollowed := true, recurses := true, loops := true, apart := false }
def InsertionLowerBoundSaid : Prop := insertionLowerBoundRow.holds Try.pinned (OpenSpec.ofChange insertionLowerBoundSpec)

/-- ITS FALSE NEIGHBOUR: 'it returns false'. Refute it at one input. -/
def insertionLowerBoundWrong : ChangeSpec := { name := "insertionLowerBound", fn := fun _ => fun
  | [d1, d2, d3] => { results := [.lit (.bool false)], args := [d1, d2, d3] }
  | _ => none }
def InsertionLowerBoundWrongFalsely : Prop := insertionLowerBoundRow.holds Try.pinned (OpenSpec.ofChange insertionLowerBoundWrong)

/-- 'emendatelaw38.InsertionMonotone': WHATEVER THE INPUT: true; the input reads as it did. -/
def insertionMonotoneSpec : ChangeSpec := { name := "insertionMonotone", fn := fun _ => fun
  | [d1, d2, d3] => { results := [.lit (.bool true)], args := [d1, d2, d3] }
  | _ => none }
def insertionMonotoneRow : OpenClaim := { program := "ytleapckcihcpaaa", sum := "39663f92a9afc92c64674a53d75ac496ae1d162ac504629440549d6f7c7eb901", func := "emendate/emendatelaw38.InsertionMonotone", spec := "insertionMonotone", unfollowed := true, recurses := true, apart := false }
def InsertionMonotoneSaid : Prop := insertionMonotoneRow.holds Try.pinned (OpenSpec.ofChange insertionMonotoneSpec)

/-- ITS FALSE NEIGHBOUR: 'it returns false'. Refute it at one input. -/
def insertionMonotoneWrong : ChangeSpec := { name := "insertionMonotone", fn := fun _ => fun
  | [d1, d2, d3] => { results := [.lit (.bool false)], args := [d1, d2, d3] }
  | _ => none }
def InsertionMonotoneWrongFalsely : Prop := insertionMonotoneRow.holds Try.pinned (OpenSpec.ofChange insertionMonotoneWrong)

/-- 'emendatelaw38.InsertionEquations': WHATEVER THE INPUT: true; the input reads as it did. -/
def insertionEquationsSpec : ChangeSpec := { name := "insertionEquations", fn := fun _ => fun
  | [d1, d2] => { results := [.lit (.bool true)], args := [d1, d2] }
  | _ => none }
def insertionEquationsRow : OpenClaim := { program := "ytleapckcihcpaaa", sum := "39663f92a9afc92c64674a53d75ac496ae1d162ac504629440549d6f7c7eb901", func := "emendate/emendatelaw38.InsertionEquations", spec := "insertionEquations", unfollowed := true, recurses := true, apart := false }
def InsertionEquationsSaid : Prop := insertionEquationsRow.holds Try.pinned (OpenSpec.ofChange insertionEquationsSpec)

/-- ITS FALSE NEIGHBOUR: 'it returns false'. Refute it at one input. -/
def insertionEquationsWrong : ChangeSpec := { name := "insertionEquations", fn := fun _ => fun
  | [d1, d2] => { results := [.lit (.bool false)], args := [d1, d2] }
  | _ => none }
def InsertionEquationsWrongFalsely : Prop := insertionEquationsRow.holds Try.pinned (OpenSpec.ofChange insertionEquationsWrong)

/- THE SECOND FORM. 'bulk': how many values and letters a reading holds, each counted each time it is reached (what is shared counts as often as it is met; a slice's spare places count too). A statement '..UptoSaid' is the law's where the arguments, and the package variables that the reading takes, are together of bulk at most 1048576: NARROWER than '..Said'. Prove '..Said' where nothing that the law and all that it calls make is longer than what came in: it says more and counts as full. Else prove '..UptoSaid'. A law counts once. -/
mutual
def uptoBulk {H : Type} : DataW H → Nat
  | .lit (.string bytes) => bytes.length + 1
  | .lit _ => 1
  | .nil => 1
  | .ptr d => uptoBulk d + 1
  | .slice elems spare => uptoBulkAll elems + uptoBulkAll spare + 1
  | .agg parts => uptoBulkAll parts + 1
  | .iface _ d => uptoBulk d + 1
  | .map entries => uptoBulkEntries entries + 1
  | .held _ => 1
def uptoBulkAll {H : Type} : List (DataW H) → Nat
  | [] => 0
  | d :: r => uptoBulk d + uptoBulkAll r
def uptoBulkEntries {H : Type} : List (Lit × DataW H) → Nat
  | [] => 0
  | x :: r => uptoBulkEntry x + uptoBulkEntries r
def uptoBulkEntry {H : Type} : Lit × DataW H → Nat
  | (.string bytes, d) => bytes.length + uptoBulk d + 1
  | (_, d) => uptoBulk d + 1
 end
def uptoSmall : (H : Type) → List (DataW H) → Bool := fun _ ds => decide (uptoBulkAll ds ≤ 1048576)
def OpenSpec.upto (s : _root_.Go.ChangeSpec) : _root_.Go.OpenSpec := { _root_.Go.OpenSpec.ofChange s with cond := some uptoSmall }

/-- 'emendatelaw38.InsertionValues', WHERE WHAT IT READS IS OF BULK AT MOST 1048576: true; the input reads as it did. -/
def insertionValuesUptoRow : OpenClaim := { program := "ytleapckcihcpaaa", sum := "39663f92a9afc92c64674a53d75ac496ae1d162ac504629440549d6f7c7eb901", func := "emendate/emendatelaw38.InsertionValues", spec := "insertionValues", unfollowed := true, recurses := true, apart := false, narrowed := true }
def InsertionValuesUptoSaid : Prop := insertionValuesUptoRow.holds Try.pinned (OpenSpec.upto insertionValuesSpec)

/-- 'emendatelaw38.InsertionParse', WHERE WHAT IT READS IS OF BULK AT MOST 1048576: true; the input reads as it did. -/
def insertionParseUptoRow : OpenClaim := { program := "ytleapckcihcpaaa", sum := "39663f92a9afc92c64674a53d75ac496ae1d162ac504629440549d6f7c7eb901", func := "emendate/emendatelaw38.InsertionParse", spec := "insertionParse", unfollowed := true, recurses := true, apart := false, narrowed := true }
def InsertionParseUptoSaid : Prop := insertionParseUptoRow.holds Try.pinned (OpenSpec.upto insertionParseSpec)

/-- 'emendatelaw38.InsertionAttained', WHERE WHAT IT READS IS OF BULK AT MOST 1048576: true; the input reads as it did. -/
def insertionAttainedUptoRow : OpenClaim := { program := "ytleapckcihcpaaa", sum := "39663f92a9afc92c64674a53d75ac496ae1d162ac504629440549d6f7c7eb901", func := "emendate/emendatelaw38.InsertionAttained", spec := "insertionAttained", unfollowed := true, recurses := true, apart := false, narrowed := true }
def InsertionAttainedUptoSaid : Prop := insertionAttainedUptoRow.holds Try.pinned (OpenSpec.upto insertionAttainedSpec)

/-- 'emendatelaw38.InsertionLowerBound', WHERE WHAT IT READS IS OF BULK AT MOST 1048576: true; the input reads as it did. -/
def insertionLowerBoundUptoRow : OpenClaim := { program := "ytleapckcihcpaaa", sum := "39663f92a9afc92c64674a53d75ac496ae1d162ac504629440549d6f7c7eb901", func := "emendate/emendatelaw38.InsertionLowerBound", spec := "insertionLowerBound", unfollowed := true, recurses := true, loops := true, apart := false, narrowed := true }
def InsertionLowerBoundUptoSaid : Prop := insertionLowerBoundUptoRow.holds Try.pinned (OpenSpec.upto insertionLowerBoundSpec)

/-- 'emendatelaw38.InsertionMonotone', WHERE WHAT IT READS IS OF BULK AT MOST 1048576: true; the input reads as it did. -/
def insertionMonotoneUptoRow : OpenClaim := { program := "ytleapckcihcpaaa", sum := "39663f92a9afc92c64674a53d75ac496ae1d162ac504629440549d6f7c7eb901", func := "emendate/emendatelaw38.InsertionMonotone", spec := "insertionMonotone", unfollowed := true, recurses := true, apart := false, narrowed := true }
def InsertionMonotoneUptoSaid : Prop := insertionMonotoneUptoRow.holds Try.pinned (OpenSpec.upto insertionMonotoneSpec)

/-- 'emendatelaw38.InsertionEquations', WHERE WHAT IT READS IS OF BULK AT MOST 1048576: true; the input reads as it did. -/
def insertionEquationsUptoRow : OpenClaim := { program := "ytleapckcihcpaaa", sum := "39663f92a9afc92c64674a53d75ac496ae1d162ac504629440549d6f7c7eb901", func := "emendate/emendatelaw38.InsertionEquations", spec := "insertionEquations", unfollowed := true, recurses := true, apart := false, narrowed := true }
def InsertionEquationsUptoSaid : Prop := insertionEquationsUptoRow.holds Try.pinned (OpenSpec.upto insertionEquationsSpec)

end Rows
end Go.Proofs.Ytleapckcihcpaaa
