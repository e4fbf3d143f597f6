/-
  No cell of these rows narrows 'for every input' (looked for: loops, veiled, ifaces, maps, wideKeys, modest, calm, conditions, laid).
  DERIVED. THE GIVEN ROWS OF THIS SEAT. 6 by the template 'for every input the law returns true; each argument reads behind the call as it read before'; 0 by the template 'total and deterministic' (their statements: YtagmpbgidooibaaTotals.lean).
  GIVEN WITH THE SEED: the statements are not yours to turn. If you find one false, say at which input.
  Laid BY PROGRAM, IN A SANDBOX (cutbox-rows.mjs): the forced cells as the released guide's own fill.sh prints them over the translation 4d99cc9dbc479590… (all of the seat's roots in one cut). By AI agents, Wed Nov 11 2026. No macro, syntax, notation, axiom, sorry.
-/
import Derived.Test.YtagmpbgidooibaaChecked
import GoSem.Claim
import GoSem.ClaimJoined
import GoSem.ClaimMapViews
import Derived.JoinedTies
import Derived.KernelRfl
namespace Go.Proofs.Ytagmpbgidooibaa
/- THE CELL 'sum', in the pinned program and in every row, IS THE sha256 OF THE DUMP (.gsa) THAT YtagmpbgidooibaaProg.lean LOADS. Nothing in Lean hashes anything: it is a label: what it is worth is what the hold of that sum in a sandbox is worth. -/
noncomputable def Try.pinned : Pinned := { name := "ytagmpbgidooibaa", sum := "4d99cc9dbc4795904dd785deded08b056bc8438ec7e261283e305dbfdf76c55a", checked := Try.checked }
namespace Rows
def none {H : Type} : Left H := { results := [], args := [] }

/-- 'emendatelaw35.ColumnsValid': WHATEVER THE INPUT: true; the input reads as it did. -/
def columnsValidSpec : ChangeSpec := { name := "columnsValid", fn := fun _ => fun
  | [d1, d2] => { results := [.lit (.bool true)], args := [d1, d2] }
  | _ => none }
def columnsValidRow : OpenClaim := { program := "ytagmpbgidooibaa", sum := "4d99cc9dbc4795904dd785deded08b056bc8438ec7e261283e305dbfdf76c55a", func := "emendate/emendatelaw35.ColumnsValid", spec := "columnsValid", unfollowed := true, recurses := true, apart := false }
def ColumnsValidSaid : Prop := columnsValidRow.holds Try.pinned (OpenSpec.ofChange columnsValidSpec)

/-- ITS FALSE NEIGHBOUR: 'it returns false'. Refute it at one input. -/
def columnsValidWrong : ChangeSpec := { name := "columnsValid", fn := fun _ => fun
  | [d1, d2] => { results := [.lit (.bool false)], args := [d1, d2] }
  | _ => none }
def ColumnsValidWrongFalsely : Prop := columnsValidRow.holds Try.pinned (OpenSpec.ofChange columnsValidWrong)

/-- 'emendatelaw35.ColumnsOf': WHATEVER THE INPUT: true; the input reads as it did. -/
def columnsOfSpec : ChangeSpec := { name := "columnsOf", fn := fun _ => fun
  | [d1, d2] => { results := [.lit (.bool true)], args := [d1, d2] }
  | _ => none }
def columnsOfRow : OpenClaim := { program := "ytagmpbgidooibaa", sum := "4d99cc9dbc4795904dd785deded08b056bc8438ec7e261283e305dbfdf76c55a", func := "emendate/emendatelaw35.ColumnsOf", spec := "columnsOf", unfollowed := true, recurses := true, apart := false }
def ColumnsOfSaid : Prop := columnsOfRow.holds Try.pinned (OpenSpec.ofChange columnsOfSpec)

/-- ITS FALSE NEIGHBOUR: 'it returns false'. Refute it at one input. -/
def columnsOfWrong : ChangeSpec := { name := "columnsOf", fn := fun _ => fun
  | [d1, d2] => { results := [.lit (.bool false)], args := [d1, d2] }
  | _ => none }
def ColumnsOfWrongFalsely : Prop := columnsOfRow.holds Try.pinned (OpenSpec.ofChange columnsOfWrong)

/-- 'emendatelaw35.ColumnsLocal': WHATEVER THE INPUT: true; the input reads as it did. -/
def columnsLocalSpec : ChangeSpec := { name := "columnsLocal", fn := fun _ => fun
  | [d1, d2, d3] => { results := [.lit (.bool true)], args := [d1, d2, d3] }
  | _ => none }
def columnsLocalRow : OpenClaim := { program := "ytagmpbgidooibaa", sum := "4d99cc9dbc4795904dd785deded08b056bc8438ec7e261283e305dbfdf76c55a", func := "emendate/emendatelaw35.ColumnsLocal", spec := "columnsLocal", unfollowed := true, recurses := true, apart := false }
def ColumnsLocalSaid : Prop := columnsLocalRow.holds Try.pinned (OpenSpec.ofChange columnsLocalSpec)

/-- ITS FALSE NEIGHBOUR: 'it returns false'. Refute it at one input. -/
def columnsLocalWrong : ChangeSpec := { name := "columnsLocal", fn := fun _ => fun
  | [d1, d2, d3] => { results := [.lit (.bool false)], args := [d1, d2, d3] }
  | _ => none }
def ColumnsLocalWrongFalsely : Prop := columnsLocalRow.holds Try.pinned (OpenSpec.ofChange columnsLocalWrong)

/-- 'emendatelaw35.ColumnsReplace': WHATEVER THE INPUT: true; the input reads as it did. -/
def columnsReplaceSpec : ChangeSpec := { name := "columnsReplace", fn := fun _ => fun
  | [d1, d2, d3] => { results := [.lit (.bool true)], args := [d1, d2, d3] }
  | _ => none }
def columnsReplaceRow : OpenClaim := { program := "ytagmpbgidooibaa", sum := "4d99cc9dbc4795904dd785deded08b056bc8438ec7e261283e305dbfdf76c55a", func := "emendate/emendatelaw35.ColumnsReplace", spec := "columnsReplace", unfollowed := true, recurses := true, apart := false }
def ColumnsReplaceSaid : Prop := columnsReplaceRow.holds Try.pinned (OpenSpec.ofChange columnsReplaceSpec)

/-- ITS FALSE NEIGHBOUR: 'it returns false'. Refute it at one input. -/
def columnsReplaceWrong : ChangeSpec := { name := "columnsReplace", fn := fun _ => fun
  | [d1, d2, d3] => { results := [.lit (.bool false)], args := [d1, d2, d3] }
  | _ => none }
def ColumnsReplaceWrongFalsely : Prop := columnsReplaceRow.holds Try.pinned (OpenSpec.ofChange columnsReplaceWrong)

/-- 'emendatelaw35.ColumnsReplaceIsRecomputation': WHATEVER THE INPUT: true; the input reads as it did. -/
def columnsReplaceIsRecomputationSpec : ChangeSpec := { name := "columnsReplaceIsRecomputation", fn := fun _ => fun
  | [d1, d2, d3] => { results := [.lit (.bool true)], args := [d1, d2, d3] }
  | _ => none }
def columnsReplaceIsRecomputationRow : OpenClaim := { program := "ytagmpbgidooibaa", sum := "4d99cc9dbc4795904dd785deded08b056bc8438ec7e261283e305dbfdf76c55a", func := "emendate/emendatelaw35.ColumnsReplaceIsRecomputation", spec := "columnsReplaceIsRecomputation", unfollowed := true, recurses := true, apart := false }
def ColumnsReplaceIsRecomputationSaid : Prop := columnsReplaceIsRecomputationRow.holds Try.pinned (OpenSpec.ofChange columnsReplaceIsRecomputationSpec)

/-- ITS FALSE NEIGHBOUR: 'it returns false'. Refute it at one input. -/
def columnsReplaceIsRecomputationWrong : ChangeSpec := { name := "columnsReplaceIsRecomputation", fn := fun _ => fun
  | [d1, d2, d3] => { results := [.lit (.bool false)], args := [d1, d2, d3] }
  | _ => none }
def ColumnsReplaceIsRecomputationWrongFalsely : Prop := columnsReplaceIsRecomputationRow.holds Try.pinned (OpenSpec.ofChange columnsReplaceIsRecomputationWrong)

/-- 'emendatelaw35.ColumnsConfusionsLower': WHATEVER THE INPUT: true; the input reads as it did. -/
def columnsConfusionsLowerSpec : ChangeSpec := { name := "columnsConfusionsLower", fn := fun _ => fun
  | [d1, d2] => { results := [.lit (.bool true)], args := [d1, d2] }
  | _ => none }
def columnsConfusionsLowerRow : OpenClaim := { program := "ytagmpbgidooibaa", sum := "4d99cc9dbc4795904dd785deded08b056bc8438ec7e261283e305dbfdf76c55a", func := "emendate/emendatelaw35.ColumnsConfusionsLower", spec := "columnsConfusionsLower", unfollowed := true, recurses := true, apart := false }
def ColumnsConfusionsLowerSaid : Prop := columnsConfusionsLowerRow.holds Try.pinned (OpenSpec.ofChange columnsConfusionsLowerSpec)

/-- ITS FALSE NEIGHBOUR: 'it returns false'. Refute it at one input. -/
def columnsConfusionsLowerWrong : ChangeSpec := { name := "columnsConfusionsLower", fn := fun _ => fun
  | [d1, d2] => { results := [.lit (.bool false)], args := [d1, d2] }
  | _ => none }
def ColumnsConfusionsLowerWrongFalsely : Prop := columnsConfusionsLowerRow.holds Try.pinned (OpenSpec.ofChange columnsConfusionsLowerWrong)

/- THE SECOND FORM. 'bulk': how many values and letters a reading holds, each counted each time it is reached (what is shared counts as often as it is met; a slice's spare places count too). A statement '..UptoSaid' is the law's where the arguments, and the package variables that the reading takes, are together of bulk at most 1048576: NARROWER than '..Said'. Prove '..Said' where nothing that the law and all that it calls make is longer than what came in: it says more and counts as full. Else prove '..UptoSaid'. A law counts once. -/
mutual
def uptoBulk {H : Type} : DataW H → Nat
  | .lit (.string bytes) => bytes.length + 1
  | .lit _ => 1
  | .nil => 1
  | .ptr d => uptoBulk d + 1
  | .slice elems spare => uptoBulkAll elems + uptoBulkAll spare + 1
  | .agg parts => uptoBulkAll parts + 1
  | .iface _ d => uptoBulk d + 1
  | .map entries => uptoBulkEntries entries + 1
  | .held _ => 1
def uptoBulkAll {H : Type} : List (DataW H) → Nat
  | [] => 0
  | d :: r => uptoBulk d + uptoBulkAll r
def uptoBulkEntries {H : Type} : List (Lit × DataW H) → Nat
  | [] => 0
  | x :: r => uptoBulkEntry x + uptoBulkEntries r
def uptoBulkEntry {H : Type} : Lit × DataW H → Nat
  | (.string bytes, d) => bytes.length + uptoBulk d + 1
  | (_, d) => uptoBulk d + 1
 end
def uptoSmall : (H : Type) → List (DataW H) → Bool := fun _ ds => decide (uptoBulkAll ds ≤ 1048576)
def OpenSpec.upto (s : _root_.Go.ChangeSpec) : _root_.Go.OpenSpec := { _root_.Go.OpenSpec.ofChange s with cond := some uptoSmall }

/-- 'emendatelaw35.ColumnsValid', WHERE WHAT IT READS IS OF BULK AT MOST 1048576: true; the input reads as it did. -/
def columnsValidUptoRow : OpenClaim := { program := "ytagmpbgidooibaa", sum := "4d99cc9dbc4795904dd785deded08b056bc8438ec7e261283e305dbfdf76c55a", func := "emendate/emendatelaw35.ColumnsValid", spec := "columnsValid", unfollowed := true, recurses := true, apart := false, narrowed := true }
def ColumnsValidUptoSaid : Prop := columnsValidUptoRow.holds Try.pinned (OpenSpec.upto columnsValidSpec)

/-- 'emendatelaw35.ColumnsOf', WHERE WHAT IT READS IS OF BULK AT MOST 1048576: true; the input reads as it did. -/
def columnsOfUptoRow : OpenClaim := { program := "ytagmpbgidooibaa", sum := "4d99cc9dbc4795904dd785deded08b056bc8438ec7e261283e305dbfdf76c55a", func := "emendate/emendatelaw35.ColumnsOf", spec := "columnsOf", unfollowed := true, recurses := true, apart := false, narrowed := true }
def ColumnsOfUptoSaid : Prop := columnsOfUptoRow.holds Try.pinned (OpenSpec.upto columnsOfSpec)

/-- 'emendatelaw35.ColumnsLocal', WHERE WHAT IT READS IS OF BULK AT MOST 1048576: true; the input reads as it did. -/
def columnsLocalUptoRow : OpenClaim := { program := "ytagmpbgidooibaa", sum := "4d99cc9dbc4795904dd785deded08b056bc8438ec7e261283e305dbfdf76c55a", func := "emendate/emendatelaw35.ColumnsLocal", spec := "columnsLocal", unfollowed := true, recurses := true, apart := false, narrowed := true }
def ColumnsLocalUptoSaid : Prop := columnsLocalUptoRow.holds Try.pinned (OpenSpec.upto columnsLocalSpec)

/-- 'emendatelaw35.ColumnsReplace', WHERE WHAT IT READS IS OF BULK AT MOST 1048576: true; the input reads as it did. -/
def columnsReplaceUptoRow : OpenClaim := { program := "ytagmpbgidooibaa", sum := "4d99cc9dbc4795904dd785deded08b056bc8438ec7e261283e305dbfdf76c55a", func := "emendate/emendatelaw35.ColumnsReplace", spec := "columnsReplace", unfollowed := true, recurses := true, apart := false, narrowed := true }
def ColumnsReplaceUptoSaid : Prop := columnsReplaceUptoRow.holds Try.pinned (OpenSpec.upto columnsReplaceSpec)

/-- 'emendatelaw35.ColumnsReplaceIsRecomputation', WHERE WHAT IT READS IS OF BULK AT MOST 1048576: true; the input reads as it did. -/
def columnsReplaceIsRecomputationUptoRow : OpenClaim := { program := "ytagmpbgidooibaa", sum := "4d99cc9dbc4795904dd785deded08b056bc8438ec7e261283e305dbfdf76c55a", func := "emendate/emendatelaw35.ColumnsReplaceIsRecomputation", spec := "columnsReplaceIsRecomputation", unfollowed := true, recurses := true, apart := false, narrowed := true }
def ColumnsReplaceIsRecomputationUptoSaid : Prop := columnsReplaceIsRecomputationUptoRow.holds Try.pinned (OpenSpec.upto columnsReplaceIsRecomputationSpec)

/-- 'emendatelaw35.ColumnsConfusionsLower', WHERE WHAT IT READS IS OF BULK AT MOST 1048576: true; the input reads as it did. -/
def columnsConfusionsLowerUptoRow : OpenClaim := { program := "ytagmpbgidooibaa", sum := "4d99cc9dbc4795904dd785deded08b056bc8438ec7e261283e305dbfdf76c55a", func := "emendate/emendatelaw35.ColumnsConfusionsLower", spec := "columnsConfusionsLower", unfollowed := true, recurses := true, apart := false, narrowed := true }
def ColumnsConfusionsLowerUptoSaid : Prop := columnsConfusionsLowerUptoRow.holds Try.pinned (OpenSpec.upto columnsConfusionsLowerSpec)

end Rows
end Go.Proofs.Ytagmpbgidooibaa
