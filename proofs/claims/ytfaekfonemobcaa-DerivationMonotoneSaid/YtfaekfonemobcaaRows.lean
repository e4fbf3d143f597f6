/-
  NARROWER THAN 'FOR EVERY INPUT', by the rows' own cells (each row's printed sentence says how): DerivationValidMatchesReference: loops · DerivationCompareMatchesReference: loops · DerivationTotalOrder: loops · DerivationBestIsLeast: loops · DerivationMonotone: loops.
  DERIVED. THE GIVEN ROWS OF THIS SEAT. 7 by the template 'for every input the law returns true; each argument reads behind the call as it read before'; 0 by the template 'total and deterministic' (their statements: YtfaekfonemobcaaTotals.lean).
  GIVEN WITH THE SEED: the statements are not yours to turn. If you find one false, say at which input.
  Laid BY PROGRAM, IN A SANDBOX (cutbox-rows.mjs): the forced cells as the released guide's own fill.sh prints them over the translation 5b746ffdf7255d6a… (all of the seat's roots in one cut). By AI agents, Wed Nov 11 2026. No macro, syntax, notation, axiom, sorry.
-/
import Derived.Test.YtfaekfonemobcaaChecked
import GoSem.Claim
import GoSem.ClaimJoined
import GoSem.ClaimMapViews
import Derived.JoinedTies
import Derived.KernelRfl
namespace Go.Proofs.Ytfaekfonemobcaa
/- THE CELL 'sum', in the pinned program and in every row, IS THE sha256 OF THE DUMP (.gsa) THAT YtfaekfonemobcaaProg.lean LOADS. Nothing in Lean hashes anything: it is a label: what it is worth is what the hold of that sum in a sandbox is worth. -/
noncomputable def Try.pinned : Pinned := { name := "ytfaekfonemobcaa", sum := "5b746ffdf7255d6ab1dcafd250c9a023829719b88881910dd40601a526909910", checked := Try.checked }
namespace Rows
def none {H : Type} : Left H := { results := [], args := [] }

/-- 'emendatelaw30.DerivationValidMatchesReference': WHATEVER THE INPUT: true; the input reads as it did. -/
def derivationValidMatchesReferenceSpec : ChangeSpec := { name := "derivationValidMatchesReference", fn := fun _ => fun
  | [d] => { results := [.lit (.bool true)], args := [d] }
  | _ => none }
def derivationValidMatchesReferenceRow : OpenClaim := { program := "ytfaekfonemobcaa", sum := "5b746ffdf7255d6ab1dcafd250c9a023829719b88881910dd40601a526909910", func := "emendate/emendatelaw30.DerivationValidMatchesReference", spec := "derivationValidMatchesReference", unfollowed := true, recurses := true, loops := true, apart := false }
def DerivationValidMatchesReferenceSaid : Prop := derivationValidMatchesReferenceRow.holds Try.pinned (OpenSpec.ofChange derivationValidMatchesReferenceSpec)

/-- ITS FALSE NEIGHBOUR: 'it returns false'. Refute it at one input. -/
def derivationValidMatchesReferenceWrong : ChangeSpec := { name := "derivationValidMatchesReference", fn := fun _ => fun
  | [d] => { results := [.lit (.bool false)], args := [d] }
  | _ => none }
def DerivationValidMatchesReferenceWrongFalsely : Prop := derivationValidMatchesReferenceRow.holds Try.pinned (OpenSpec.ofChange derivationValidMatchesReferenceWrong)

/-- 'emendatelaw30.DerivationCompareMatchesReference': WHATEVER THE INPUT: true; the input reads as it did. -/
def derivationCompareMatchesReferenceSpec : ChangeSpec := { name := "derivationCompareMatchesReference", fn := fun _ => fun
  | [d] => { results := [.lit (.bool true)], args := [d] }
  | _ => none }
def derivationCompareMatchesReferenceRow : OpenClaim := { program := "ytfaekfonemobcaa", sum := "5b746ffdf7255d6ab1dcafd250c9a023829719b88881910dd40601a526909910", func := "emendate/emendatelaw30.DerivationCompareMatchesReference", spec := "derivationCompareMatchesReference", unfollowed := true, recurses := true, loops := true, apart := false }
def DerivationCompareMatchesReferenceSaid : Prop := derivationCompareMatchesReferenceRow.holds Try.pinned (OpenSpec.ofChange derivationCompareMatchesReferenceSpec)

/-- ITS FALSE NEIGHBOUR: 'it returns false'. Refute it at one input. -/
def derivationCompareMatchesReferenceWrong : ChangeSpec := { name := "derivationCompareMatchesReference", fn := fun _ => fun
  | [d] => { results := [.lit (.bool false)], args := [d] }
  | _ => none }
def DerivationCompareMatchesReferenceWrongFalsely : Prop := derivationCompareMatchesReferenceRow.holds Try.pinned (OpenSpec.ofChange derivationCompareMatchesReferenceWrong)

/-- 'emendatelaw30.DerivationTotalOrder': WHATEVER THE INPUT: true; the input reads as it did. -/
def derivationTotalOrderSpec : ChangeSpec := { name := "derivationTotalOrder", fn := fun _ => fun
  | [d] => { results := [.lit (.bool true)], args := [d] }
  | _ => none }
def derivationTotalOrderRow : OpenClaim := { program := "ytfaekfonemobcaa", sum := "5b746ffdf7255d6ab1dcafd250c9a023829719b88881910dd40601a526909910", func := "emendate/emendatelaw30.DerivationTotalOrder", spec := "derivationTotalOrder", unfollowed := true, recurses := true, loops := true, apart := false }
def DerivationTotalOrderSaid : Prop := derivationTotalOrderRow.holds Try.pinned (OpenSpec.ofChange derivationTotalOrderSpec)

/-- ITS FALSE NEIGHBOUR: 'it returns false'. Refute it at one input. -/
def derivationTotalOrderWrong : ChangeSpec := { name := "derivationTotalOrder", fn := fun _ => fun
  | [d] => { results := [.lit (.bool false)], args := [d] }
  | _ => none }
def DerivationTotalOrderWrongFalsely : Prop := derivationTotalOrderRow.holds Try.pinned (OpenSpec.ofChange derivationTotalOrderWrong)

/-- 'emendatelaw30.DerivationBestMatchesReference': WHATEVER THE INPUT: true; the input reads as it did. -/
def derivationBestMatchesReferenceSpec : ChangeSpec := { name := "derivationBestMatchesReference", fn := fun _ => fun
  | [d1, d2] => { results := [.lit (.bool true)], args := [d1, d2] }
  | _ => none }
def derivationBestMatchesReferenceRow : OpenClaim := { program := "ytfaekfonemobcaa", sum := "5b746ffdf7255d6ab1dcafd250c9a023829719b88881910dd40601a526909910", func := "emendate/emendatelaw30.DerivationBestMatchesReference", spec := "derivationBestMatchesReference", unfollowed := true, recurses := true, apart := false }
def DerivationBestMatchesReferenceSaid : Prop := derivationBestMatchesReferenceRow.holds Try.pinned (OpenSpec.ofChange derivationBestMatchesReferenceSpec)

/-- ITS FALSE NEIGHBOUR: 'it returns false'. Refute it at one input. -/
def derivationBestMatchesReferenceWrong : ChangeSpec := { name := "derivationBestMatchesReference", fn := fun _ => fun
  | [d1, d2] => { results := [.lit (.bool false)], args := [d1, d2] }
  | _ => none }
def DerivationBestMatchesReferenceWrongFalsely : Prop := derivationBestMatchesReferenceRow.holds Try.pinned (OpenSpec.ofChange derivationBestMatchesReferenceWrong)

/-- 'emendatelaw30.DerivationBestIsLeast': WHATEVER THE INPUT: true; the input reads as it did. -/
def derivationBestIsLeastSpec : ChangeSpec := { name := "derivationBestIsLeast", fn := fun _ => fun
  | [d] => { results := [.lit (.bool true)], args := [d] }
  | _ => none }
def derivationBestIsLeastRow : OpenClaim := { program := "ytfaekfonemobcaa", sum := "5b746ffdf7255d6ab1dcafd250c9a023829719b88881910dd40601a526909910", func := "emendate/emendatelaw30.DerivationBestIsLeast", spec := "derivationBestIsLeast", unfollowed := true, recurses := true, loops := true, apart := false }
def DerivationBestIsLeastSaid : Prop := derivationBestIsLeastRow.holds Try.pinned (OpenSpec.ofChange derivationBestIsLeastSpec)

/-- ITS FALSE NEIGHBOUR: 'it returns false'. Refute it at one input. -/
def derivationBestIsLeastWrong : ChangeSpec := { name := "derivationBestIsLeast", fn := fun _ => fun
  | [d] => { results := [.lit (.bool false)], args := [d] }
  | _ => none }
def DerivationBestIsLeastWrongFalsely : Prop := derivationBestIsLeastRow.holds Try.pinned (OpenSpec.ofChange derivationBestIsLeastWrong)

/-- 'emendatelaw30.DerivationMonotone': WHATEVER THE INPUT: true; the input reads as it did. -/
def derivationMonotoneSpec : ChangeSpec := { name := "derivationMonotone", fn := fun _ => fun
  | [d] => { results := [.lit (.bool true)], args := [d] }
  | _ => none }
def derivationMonotoneRow : OpenClaim := { program := "ytfaekfonemobcaa", sum := "5b746ffdf7255d6ab1dcafd250c9a023829719b88881910dd40601a526909910", func := "emendate/emendatelaw30.DerivationMonotone", spec := "derivationMonotone", unfollowed := true, recurses := true, loops := true, apart := false }
def DerivationMonotoneSaid : Prop := derivationMonotoneRow.holds Try.pinned (OpenSpec.ofChange derivationMonotoneSpec)

/-- ITS FALSE NEIGHBOUR: 'it returns false'. Refute it at one input. -/
def derivationMonotoneWrong : ChangeSpec := { name := "derivationMonotone", fn := fun _ => fun
  | [d] => { results := [.lit (.bool false)], args := [d] }
  | _ => none }
def DerivationMonotoneWrongFalsely : Prop := derivationMonotoneRow.holds Try.pinned (OpenSpec.ofChange derivationMonotoneWrong)

/-- 'emendatelaw30.DerivationBestSubtrees': WHATEVER THE INPUT: true; the input reads as it did. -/
def derivationBestSubtreesSpec : ChangeSpec := { name := "derivationBestSubtrees", fn := fun _ => fun
  | [d1, d2] => { results := [.lit (.bool true)], args := [d1, d2] }
  | _ => none }
def derivationBestSubtreesRow : OpenClaim := { program := "ytfaekfonemobcaa", sum := "5b746ffdf7255d6ab1dcafd250c9a023829719b88881910dd40601a526909910", func := "emendate/emendatelaw30.DerivationBestSubtrees", spec := "derivationBestSubtrees", unfollowed := true, recurses := true, apart := false }
def DerivationBestSubtreesSaid : Prop := derivationBestSubtreesRow.holds Try.pinned (OpenSpec.ofChange derivationBestSubtreesSpec)

/-- ITS FALSE NEIGHBOUR: 'it returns false'. Refute it at one input. -/
def derivationBestSubtreesWrong : ChangeSpec := { name := "derivationBestSubtrees", fn := fun _ => fun
  | [d1, d2] => { results := [.lit (.bool false)], args := [d1, d2] }
  | _ => none }
def DerivationBestSubtreesWrongFalsely : Prop := derivationBestSubtreesRow.holds Try.pinned (OpenSpec.ofChange derivationBestSubtreesWrong)

/- THE SECOND FORM. 'bulk': how many values and letters a reading holds, each counted each time it is reached (what is shared counts as often as it is met; a slice's spare places count too). A statement '..UptoSaid' is the law's where the arguments, and the package variables that the reading takes, are together of bulk at most 1048576: NARROWER than '..Said'. Prove '..Said' where nothing that the law and all that it calls make is longer than what came in: it says more and counts as full. Else prove '..UptoSaid'. A law counts once. -/
mutual
def uptoBulk {H : Type} : DataW H → Nat
  | .lit (.string bytes) => bytes.length + 1
  | .lit _ => 1
  | .nil => 1
  | .ptr d => uptoBulk d + 1
  | .slice elems spare => uptoBulkAll elems + uptoBulkAll spare + 1
  | .agg parts => uptoBulkAll parts + 1
  | .iface _ d => uptoBulk d + 1
  | .map entries => uptoBulkEntries entries + 1
  | .held _ => 1
def uptoBulkAll {H : Type} : List (DataW H) → Nat
  | [] => 0
  | d :: r => uptoBulk d + uptoBulkAll r
def uptoBulkEntries {H : Type} : List (Lit × DataW H) → Nat
  | [] => 0
  | x :: r => uptoBulkEntry x + uptoBulkEntries r
def uptoBulkEntry {H : Type} : Lit × DataW H → Nat
  | (.string bytes, d) => bytes.length + uptoBulk d + 1
  | (_, d) => uptoBulk d + 1
 end
def uptoSmall : (H : Type) → List (DataW H) → Bool := fun _ ds => decide (uptoBulkAll ds ≤ 1048576)
def OpenSpec.upto (s : _root_.Go.ChangeSpec) : _root_.Go.OpenSpec := { _root_.Go.OpenSpec.ofChange s with cond := some uptoSmall }

/-- 'emendatelaw30.DerivationValidMatchesReference', WHERE WHAT IT READS IS OF BULK AT MOST 1048576: true; the input reads as it did. -/
def derivationValidMatchesReferenceUptoRow : OpenClaim := { program := "ytfaekfonemobcaa", sum := "5b746ffdf7255d6ab1dcafd250c9a023829719b88881910dd40601a526909910", func := "emendate/emendatelaw30.DerivationValidMatchesReference", spec := "derivationValidMatchesReference", unfollowed := true, recurses := true, loops := true, apart := false, narrowed := true }
def DerivationValidMatchesReferenceUptoSaid : Prop := derivationValidMatchesReferenceUptoRow.holds Try.pinned (OpenSpec.upto derivationValidMatchesReferenceSpec)

/-- 'emendatelaw30.DerivationCompareMatchesReference', WHERE WHAT IT READS IS OF BULK AT MOST 1048576: true; the input reads as it did. -/
def derivationCompareMatchesReferenceUptoRow : OpenClaim := { program := "ytfaekfonemobcaa", sum := "5b746ffdf7255d6ab1dcafd250c9a023829719b88881910dd40601a526909910", func := "emendate/emendatelaw30.DerivationCompareMatchesReference", spec := "derivationCompareMatchesReference", unfollowed := true, recurses := true, loops := true, apart := false, narrowed := true }
def DerivationCompareMatchesReferenceUptoSaid : Prop := derivationCompareMatchesReferenceUptoRow.holds Try.pinned (OpenSpec.upto derivationCompareMatchesReferenceSpec)

/-- 'emendatelaw30.DerivationTotalOrder', WHERE WHAT IT READS IS OF BULK AT MOST 1048576: true; the input reads as it did. -/
def derivationTotalOrderUptoRow : OpenClaim := { program := "ytfaekfonemobcaa", sum := "5b746ffdf7255d6ab1dcafd250c9a023829719b88881910dd40601a526909910", func := "emendate/emendatelaw30.DerivationTotalOrder", spec := "derivationTotalOrder", unfollowed := true, recurses := true, loops := true, apart := false, narrowed := true }
def DerivationTotalOrderUptoSaid : Prop := derivationTotalOrderUptoRow.holds Try.pinned (OpenSpec.upto derivationTotalOrderSpec)

/-- 'emendatelaw30.DerivationBestMatchesReference', WHERE WHAT IT READS IS OF BULK AT MOST 1048576: true; the input reads as it did. -/
def derivationBestMatchesReferenceUptoRow : OpenClaim := { program := "ytfaekfonemobcaa", sum := "5b746ffdf7255d6ab1dcafd250c9a023829719b88881910dd40601a526909910", func := "emendate/emendatelaw30.DerivationBestMatchesReference", spec := "derivationBestMatchesReference", unfollowed := true, recurses := true, apart := false, narrowed := true }
def DerivationBestMatchesReferenceUptoSaid : Prop := derivationBestMatchesReferenceUptoRow.holds Try.pinned (OpenSpec.upto derivationBestMatchesReferenceSpec)

/-- 'emendatelaw30.DerivationBestIsLeast', WHERE WHAT IT READS IS OF BULK AT MOST 1048576: true; the input reads as it did. -/
def derivationBestIsLeastUptoRow : OpenClaim := { program := "ytfaekfonemobcaa", sum := "5b746ffdf7255d6ab1dcafd250c9a023829719b88881910dd40601a526909910", func := "emendate/emendatelaw30.DerivationBestIsLeast", spec := "derivationBestIsLeast", unfollowed := true, recurses := true, loops := true, apart := false, narrowed := true }
def DerivationBestIsLeastUptoSaid : Prop := derivationBestIsLeastUptoRow.holds Try.pinned (OpenSpec.upto derivationBestIsLeastSpec)

/-- 'emendatelaw30.DerivationMonotone', WHERE WHAT IT READS IS OF BULK AT MOST 1048576: true; the input reads as it did. -/
def derivationMonotoneUptoRow : OpenClaim := { program := "ytfaekfonemobcaa", sum := "5b746ffdf7255d6ab1dcafd250c9a023829719b88881910dd40601a526909910", func := "emendate/emendatelaw30.DerivationMonotone", spec := "derivationMonotone", unfollowed := true, recurses := true, loops := true, apart := false, narrowed := true }
def DerivationMonotoneUptoSaid : Prop := derivationMonotoneUptoRow.holds Try.pinned (OpenSpec.upto derivationMonotoneSpec)

/-- 'emendatelaw30.DerivationBestSubtrees', WHERE WHAT IT READS IS OF BULK AT MOST 1048576: true; the input reads as it did. -/
def derivationBestSubtreesUptoRow : OpenClaim := { program := "ytfaekfonemobcaa", sum := "5b746ffdf7255d6ab1dcafd250c9a023829719b88881910dd40601a526909910", func := "emendate/emendatelaw30.DerivationBestSubtrees", spec := "derivationBestSubtrees", unfollowed := true, recurses := true, apart := false, narrowed := true }
def DerivationBestSubtreesUptoSaid : Prop := derivationBestSubtreesUptoRow.holds Try.pinned (OpenSpec.upto derivationBestSubtreesSpec)

end Rows
end Go.Proofs.Ytfaekfonemobcaa
