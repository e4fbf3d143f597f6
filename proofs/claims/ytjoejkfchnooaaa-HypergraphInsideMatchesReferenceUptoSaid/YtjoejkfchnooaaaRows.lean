/-
  No cell of these rows narrows 'for every input' (looked for: loops, veiled, ifaces, maps, wideKeys, modest, calm, conditions, laid).
  DERIVED. THE GIVEN ROWS OF THIS SEAT. 8 by the template 'for every input the law returns true; each argument reads behind the call as it read before'; 0 by the template 'total and deterministic' (their statements: YtjoejkfchnooaaaTotals.lean).
  GIVEN WITH THE SEED: the statements are not yours to turn. If you find one false, say at which input.
  Laid BY PROGRAM, IN A SANDBOX (cutbox-rows.mjs): the forced cells as the released guide's own fill.sh prints them over the translation aaeda5038a77dfa2… (all of the seat's roots in one cut). By AI agents, Wed Nov 11 2026. No macro, syntax, notation, axiom, sorry.
-/
import Derived.Test.YtjoejkfchnooaaaChecked
import GoSem.Claim
import GoSem.ClaimJoined
import GoSem.ClaimMapViews
import Derived.JoinedTies
import Derived.KernelRfl
namespace Go.Proofs.Ytjoejkfchnooaaa
/- THE CELL 'sum', in the pinned program and in every row, IS THE sha256 OF THE DUMP (.gsa) THAT YtjoejkfchnooaaaProg.lean LOADS. Nothing in Lean hashes anything: it is a label: what it is worth is what the hold of that sum in a sandbox is worth. -/
noncomputable def Try.pinned : Pinned := { name := "ytjoejkfchnooaaa", sum := "aaeda5038a77dfa25f9a88e439a16aad5ad42d8ad7f0b45ae1bef2c2736f3911", checked := Try.checked }
namespace Rows
def none {H : Type} : Left H := { results := [], args := [] }

/-- 'emendatelaw27.HypergraphValidMatchesReference': WHATEVER THE INPUT: true; the input reads as it did. -/
def hypergraphValidMatchesReferenceSpec : ChangeSpec := { name := "hypergraphValidMatchesReference", fn := fun _ => fun
  | [d] => { results := [.lit (.bool true)], args := [d] }
  | _ => none }
def hypergraphValidMatchesReferenceRow : OpenClaim := { program := "ytjoejkfchnooaaa", sum := "aaeda5038a77dfa25f9a88e439a16aad5ad42d8ad7f0b45ae1bef2c2736f3911", func := "emendate/emendatelaw27.HypergraphValidMatchesReference", spec := "hypergraphValidMatchesReference", unfollowed := true, recurses := true, apart := false }
def HypergraphValidMatchesReferenceSaid : Prop := hypergraphValidMatchesReferenceRow.holds Try.pinned (OpenSpec.ofChange hypergraphValidMatchesReferenceSpec)

/-- ITS FALSE NEIGHBOUR: 'it returns false'. Refute it at one input. -/
def hypergraphValidMatchesReferenceWrong : ChangeSpec := { name := "hypergraphValidMatchesReference", fn := fun _ => fun
  | [d] => { results := [.lit (.bool false)], args := [d] }
  | _ => none }
def HypergraphValidMatchesReferenceWrongFalsely : Prop := hypergraphValidMatchesReferenceRow.holds Try.pinned (OpenSpec.ofChange hypergraphValidMatchesReferenceWrong)

/-- 'emendatelaw27.HypergraphDerivableIsLeastFixpoint': WHATEVER THE INPUT: true; the input reads as it did. -/
def hypergraphDerivableIsLeastFixpointSpec : ChangeSpec := { name := "hypergraphDerivableIsLeastFixpoint", fn := fun _ => fun
  | [d] => { results := [.lit (.bool true)], args := [d] }
  | _ => none }
def hypergraphDerivableIsLeastFixpointRow : OpenClaim := { program := "ytjoejkfchnooaaa", sum := "aaeda5038a77dfa25f9a88e439a16aad5ad42d8ad7f0b45ae1bef2c2736f3911", func := "emendate/emendatelaw27.HypergraphDerivableIsLeastFixpoint", spec := "hypergraphDerivableIsLeastFixpoint", unfollowed := true, recurses := true, apart := false }
def HypergraphDerivableIsLeastFixpointSaid : Prop := hypergraphDerivableIsLeastFixpointRow.holds Try.pinned (OpenSpec.ofChange hypergraphDerivableIsLeastFixpointSpec)

/-- ITS FALSE NEIGHBOUR: 'it returns false'. Refute it at one input. -/
def hypergraphDerivableIsLeastFixpointWrong : ChangeSpec := { name := "hypergraphDerivableIsLeastFixpoint", fn := fun _ => fun
  | [d] => { results := [.lit (.bool false)], args := [d] }
  | _ => none }
def HypergraphDerivableIsLeastFixpointWrongFalsely : Prop := hypergraphDerivableIsLeastFixpointRow.holds Try.pinned (OpenSpec.ofChange hypergraphDerivableIsLeastFixpointWrong)

/-- 'emendatelaw27.HypergraphReachableIsTransitive': WHATEVER THE INPUT: true; the input reads as it did. -/
def hypergraphReachableIsTransitiveSpec : ChangeSpec := { name := "hypergraphReachableIsTransitive", fn := fun _ => fun
  | [d1, d2] => { results := [.lit (.bool true)], args := [d1, d2] }
  | _ => none }
def hypergraphReachableIsTransitiveRow : OpenClaim := { program := "ytjoejkfchnooaaa", sum := "aaeda5038a77dfa25f9a88e439a16aad5ad42d8ad7f0b45ae1bef2c2736f3911", func := "emendate/emendatelaw27.HypergraphReachableIsTransitive", spec := "hypergraphReachableIsTransitive", unfollowed := true, recurses := true, apart := false }
def HypergraphReachableIsTransitiveSaid : Prop := hypergraphReachableIsTransitiveRow.holds Try.pinned (OpenSpec.ofChange hypergraphReachableIsTransitiveSpec)

/-- ITS FALSE NEIGHBOUR: 'it returns false'. Refute it at one input. -/
def hypergraphReachableIsTransitiveWrong : ChangeSpec := { name := "hypergraphReachableIsTransitive", fn := fun _ => fun
  | [d1, d2] => { results := [.lit (.bool false)], args := [d1, d2] }
  | _ => none }
def HypergraphReachableIsTransitiveWrongFalsely : Prop := hypergraphReachableIsTransitiveRow.holds Try.pinned (OpenSpec.ofChange hypergraphReachableIsTransitiveWrong)

/-- 'emendatelaw27.HypergraphOrderIsTopological': WHATEVER THE INPUT: true; the input reads as it did. -/
def hypergraphOrderIsTopologicalSpec : ChangeSpec := { name := "hypergraphOrderIsTopological", fn := fun _ => fun
  | [d] => { results := [.lit (.bool true)], args := [d] }
  | _ => none }
def hypergraphOrderIsTopologicalRow : OpenClaim := { program := "ytjoejkfchnooaaa", sum := "aaeda5038a77dfa25f9a88e439a16aad5ad42d8ad7f0b45ae1bef2c2736f3911", func := "emendate/emendatelaw27.HypergraphOrderIsTopological", spec := "hypergraphOrderIsTopological", unfollowed := true, recurses := true, apart := false }
def HypergraphOrderIsTopologicalSaid : Prop := hypergraphOrderIsTopologicalRow.holds Try.pinned (OpenSpec.ofChange hypergraphOrderIsTopologicalSpec)

/-- ITS FALSE NEIGHBOUR: 'it returns false'. Refute it at one input. -/
def hypergraphOrderIsTopologicalWrong : ChangeSpec := { name := "hypergraphOrderIsTopological", fn := fun _ => fun
  | [d] => { results := [.lit (.bool false)], args := [d] }
  | _ => none }
def HypergraphOrderIsTopologicalWrongFalsely : Prop := hypergraphOrderIsTopologicalRow.holds Try.pinned (OpenSpec.ofChange hypergraphOrderIsTopologicalWrong)

/-- 'emendatelaw27.HypergraphInsideMatchesReference': WHATEVER THE INPUT: true; the input reads as it did. -/
def hypergraphInsideMatchesReferenceSpec : ChangeSpec := { name := "hypergraphInsideMatchesReference", fn := fun _ => fun
  | [d1, d2] => { results := [.lit (.bool true)], args := [d1, d2] }
  | _ => none }
def hypergraphInsideMatchesReferenceRow : OpenClaim := { program := "ytjoejkfchnooaaa", sum := "aaeda5038a77dfa25f9a88e439a16aad5ad42d8ad7f0b45ae1bef2c2736f3911", func := "emendate/emendatelaw27.HypergraphInsideMatchesReference", spec := "hypergraphInsideMatchesReference", unfollowed := true, recurses := true, apart := false }
def HypergraphInsideMatchesReferenceSaid : Prop := hypergraphInsideMatchesReferenceRow.holds Try.pinned (OpenSpec.ofChange hypergraphInsideMatchesReferenceSpec)

/-- ITS FALSE NEIGHBOUR: 'it returns false'. Refute it at one input. -/
def hypergraphInsideMatchesReferenceWrong : ChangeSpec := { name := "hypergraphInsideMatchesReference", fn := fun _ => fun
  | [d1, d2] => { results := [.lit (.bool false)], args := [d1, d2] }
  | _ => none }
def HypergraphInsideMatchesReferenceWrongFalsely : Prop := hypergraphInsideMatchesReferenceRow.holds Try.pinned (OpenSpec.ofChange hypergraphInsideMatchesReferenceWrong)

/-- 'emendatelaw27.HypergraphInsideOrder': WHATEVER THE INPUT: true; the input reads as it did. -/
def hypergraphInsideOrderSpec : ChangeSpec := { name := "hypergraphInsideOrder", fn := fun _ => fun
  | [d] => { results := [.lit (.bool true)], args := [d] }
  | _ => none }
def hypergraphInsideOrderRow : OpenClaim := { program := "ytjoejkfchnooaaa", sum := "aaeda5038a77dfa25f9a88e439a16aad5ad42d8ad7f0b45ae1bef2c2736f3911", func := "emendate/emendatelaw27.HypergraphInsideOrder", spec := "hypergraphInsideOrder", unfollowed := true, recurses := true, apart := false }
def HypergraphInsideOrderSaid : Prop := hypergraphInsideOrderRow.holds Try.pinned (OpenSpec.ofChange hypergraphInsideOrderSpec)

/-- ITS FALSE NEIGHBOUR: 'it returns false'. Refute it at one input. -/
def hypergraphInsideOrderWrong : ChangeSpec := { name := "hypergraphInsideOrder", fn := fun _ => fun
  | [d] => { results := [.lit (.bool false)], args := [d] }
  | _ => none }
def HypergraphInsideOrderWrongFalsely : Prop := hypergraphInsideOrderRow.holds Try.pinned (OpenSpec.ofChange hypergraphInsideOrderWrong)

/-- 'emendatelaw27.HypergraphInsideBoolean': WHATEVER THE INPUT: true; the input reads as it did. -/
def hypergraphInsideBooleanSpec : ChangeSpec := { name := "hypergraphInsideBoolean", fn := fun _ => fun
  | [d] => { results := [.lit (.bool true)], args := [d] }
  | _ => none }
def hypergraphInsideBooleanRow : OpenClaim := { program := "ytjoejkfchnooaaa", sum := "aaeda5038a77dfa25f9a88e439a16aad5ad42d8ad7f0b45ae1bef2c2736f3911", func := "emendate/emendatelaw27.HypergraphInsideBoolean", spec := "hypergraphInsideBoolean", unfollowed := true, recurses := true, apart := false }
def HypergraphInsideBooleanSaid : Prop := hypergraphInsideBooleanRow.holds Try.pinned (OpenSpec.ofChange hypergraphInsideBooleanSpec)

/-- ITS FALSE NEIGHBOUR: 'it returns false'. Refute it at one input. -/
def hypergraphInsideBooleanWrong : ChangeSpec := { name := "hypergraphInsideBoolean", fn := fun _ => fun
  | [d] => { results := [.lit (.bool false)], args := [d] }
  | _ => none }
def HypergraphInsideBooleanWrongFalsely : Prop := hypergraphInsideBooleanRow.holds Try.pinned (OpenSpec.ofChange hypergraphInsideBooleanWrong)

/-- 'emendatelaw27.HypergraphInsideLinear': WHATEVER THE INPUT: true; the input reads as it did. -/
def hypergraphInsideLinearSpec : ChangeSpec := { name := "hypergraphInsideLinear", fn := fun _ => fun
  | [d1, d2] => { results := [.lit (.bool true)], args := [d1, d2] }
  | _ => none }
def hypergraphInsideLinearRow : OpenClaim := { program := "ytjoejkfchnooaaa", sum := "aaeda5038a77dfa25f9a88e439a16aad5ad42d8ad7f0b45ae1bef2c2736f3911", func := "emendate/emendatelaw27.HypergraphInsideLinear", spec := "hypergraphInsideLinear", unfollowed := true, recurses := true, apart := false }
def HypergraphInsideLinearSaid : Prop := hypergraphInsideLinearRow.holds Try.pinned (OpenSpec.ofChange hypergraphInsideLinearSpec)

/-- ITS FALSE NEIGHBOUR: 'it returns false'. Refute it at one input. -/
def hypergraphInsideLinearWrong : ChangeSpec := { name := "hypergraphInsideLinear", fn := fun _ => fun
  | [d1, d2] => { results := [.lit (.bool false)], args := [d1, d2] }
  | _ => none }
def HypergraphInsideLinearWrongFalsely : Prop := hypergraphInsideLinearRow.holds Try.pinned (OpenSpec.ofChange hypergraphInsideLinearWrong)

/- THE SECOND FORM. 'bulk': how many values and letters a reading holds, each counted each time it is reached (what is shared counts as often as it is met; a slice's spare places count too). A statement '..UptoSaid' is the law's where the arguments, and the package variables that the reading takes, are together of bulk at most 1048576: NARROWER than '..Said'. Prove '..Said' where nothing that the law and all that it calls make is longer than what came in: it says more and counts as full. Else prove '..UptoSaid'. A law counts once. -/
mutual
def uptoBulk {H : Type} : DataW H → Nat
  | .lit (.string bytes) => bytes.length + 1
  | .lit _ => 1
  | .nil => 1
  | .ptr d => uptoBulk d + 1
  | .slice elems spare => uptoBulkAll elems + uptoBulkAll spare + 1
  | .agg parts => uptoBulkAll parts + 1
  | .iface _ d => uptoBulk d + 1
  | .map entries => uptoBulkEntries entries + 1
  | .held _ => 1
def uptoBulkAll {H : Type} : List (DataW H) → Nat
  | [] => 0
  | d :: r => uptoBulk d + uptoBulkAll r
def uptoBulkEntries {H : Type} : List (Lit × DataW H) → Nat
  | [] => 0
  | x :: r => uptoBulkEntry x + uptoBulkEntries r
def uptoBulkEntry {H : Type} : Lit × DataW H → Nat
  | (.string bytes, d) => bytes.length + uptoBulk d + 1
  | (_, d) => uptoBulk d + 1
 end
def uptoSmall : (H : Type) → List (DataW H) → Bool := fun _ ds => decide (uptoBulkAll ds ≤ 1048576)
def OpenSpec.upto (s : _root_.Go.ChangeSpec) : _root_.Go.OpenSpec := { _root_.Go.OpenSpec.ofChange s with cond := some uptoSmall }

/-- 'emendatelaw27.HypergraphValidMatchesReference', WHERE WHAT IT READS IS OF BULK AT MOST 1048576: true; the input reads as it did. -/
def hypergraphValidMatchesReferenceUptoRow : OpenClaim := { program := "ytjoejkfchnooaaa", sum := "aaeda5038a77dfa25f9a88e439a16aad5ad42d8ad7f0b45ae1bef2c2736f3911", func := "emendate/emendatelaw27.HypergraphValidMatchesReference", spec := "hypergraphValidMatchesReference", unfollowed := true, recurses := true, apart := false, narrowed := true }
def HypergraphValidMatchesReferenceUptoSaid : Prop := hypergraphValidMatchesReferenceUptoRow.holds Try.pinned (OpenSpec.upto hypergraphValidMatchesReferenceSpec)

/-- 'emendatelaw27.HypergraphDerivableIsLeastFixpoint', WHERE WHAT IT READS IS OF BULK AT MOST 1048576: true; the input reads as it did. -/
def hypergraphDerivableIsLeastFixpointUptoRow : OpenClaim := { program := "ytjoejkfchnooaaa", sum := "aaeda5038a77dfa25f9a88e439a16aad5ad42d8ad7f0b45ae1bef2c2736f3911", func := "emendate/emendatelaw27.HypergraphDerivableIsLeastFixpoint", spec := "hypergraphDerivableIsLeastFixpoint", unfollowed := true, recurses := true, apart := false, narrowed := true }
def HypergraphDerivableIsLeastFixpointUptoSaid : Prop := hypergraphDerivableIsLeastFixpointUptoRow.holds Try.pinned (OpenSpec.upto hypergraphDerivableIsLeastFixpointSpec)

/-- 'emendatelaw27.HypergraphReachableIsTransitive', WHERE WHAT IT READS IS OF BULK AT MOST 1048576: true; the input reads as it did. -/
def hypergraphReachableIsTransitiveUptoRow : OpenClaim := { program := "ytjoejkfchnooaaa", sum := "aaeda5038a77dfa25f9a88e439a16aad5ad42d8ad7f0b45ae1bef2c2736f3911", func := "emendate/emendatelaw27.HypergraphReachableIsTransitive", spec := "hypergraphReachableIsTransitive", unfollowed := true, recurses := true, apart := false, narrowed := true }
def HypergraphReachableIsTransitiveUptoSaid : Prop := hypergraphReachableIsTransitiveUptoRow.holds Try.pinned (OpenSpec.upto hypergraphReachableIsTransitiveSpec)

/-- 'emendatelaw27.HypergraphOrderIsTopological', WHERE WHAT IT READS IS OF BULK AT MOST 1048576: true; the input reads as it did. -/
def hypergraphOrderIsTopologicalUptoRow : OpenClaim := { program := "ytjoejkfchnooaaa", sum := "aaeda5038a77dfa25f9a88e439a16aad5ad42d8ad7f0b45ae1bef2c2736f3911", func := "emendate/emendatelaw27.HypergraphOrderIsTopological", spec := "hypergraphOrderIsTopological", unfollowed := true, recurses := true, apart := false, narrowed := true }
def HypergraphOrderIsTopologicalUptoSaid : Prop := hypergraphOrderIsTopologicalUptoRow.holds Try.pinned (OpenSpec.upto hypergraphOrderIsTopologicalSpec)

/-- 'emendatelaw27.HypergraphInsideMatchesReference', WHERE WHAT IT READS IS OF BULK AT MOST 1048576: true; the input reads as it did. -/
def hypergraphInsideMatchesReferenceUptoRow : OpenClaim := { program := "ytjoejkfchnooaaa", sum := "aaeda5038a77dfa25f9a88e439a16aad5ad42d8ad7f0b45ae1bef2c2736f3911", func := "emendate/emendatelaw27.HypergraphInsideMatchesReference", spec := "hypergraphInsideMatchesReference", unfollowed := true, recurses := true, apart := false, narrowed := true }
def HypergraphInsideMatchesReferenceUptoSaid : Prop := hypergraphInsideMatchesReferenceUptoRow.holds Try.pinned (OpenSpec.upto hypergraphInsideMatchesReferenceSpec)

/-- 'emendatelaw27.HypergraphInsideOrder', WHERE WHAT IT READS IS OF BULK AT MOST 1048576: true; the input reads as it did. -/
def hypergraphInsideOrderUptoRow : OpenClaim := { program := "ytjoejkfchnooaaa", sum := "aaeda5038a77dfa25f9a88e439a16aad5ad42d8ad7f0b45ae1bef2c2736f3911", func := "emendate/emendatelaw27.HypergraphInsideOrder", spec := "hypergraphInsideOrder", unfollowed := true, recurses := true, apart := false, narrowed := true }
def HypergraphInsideOrderUptoSaid : Prop := hypergraphInsideOrderUptoRow.holds Try.pinned (OpenSpec.upto hypergraphInsideOrderSpec)

/-- 'emendatelaw27.HypergraphInsideBoolean', WHERE WHAT IT READS IS OF BULK AT MOST 1048576: true; the input reads as it did. -/
def hypergraphInsideBooleanUptoRow : OpenClaim := { program := "ytjoejkfchnooaaa", sum := "aaeda5038a77dfa25f9a88e439a16aad5ad42d8ad7f0b45ae1bef2c2736f3911", func := "emendate/emendatelaw27.HypergraphInsideBoolean", spec := "hypergraphInsideBoolean", unfollowed := true, recurses := true, apart := false, narrowed := true }
def HypergraphInsideBooleanUptoSaid : Prop := hypergraphInsideBooleanUptoRow.holds Try.pinned (OpenSpec.upto hypergraphInsideBooleanSpec)

/-- 'emendatelaw27.HypergraphInsideLinear', WHERE WHAT IT READS IS OF BULK AT MOST 1048576: true; the input reads as it did. -/
def hypergraphInsideLinearUptoRow : OpenClaim := { program := "ytjoejkfchnooaaa", sum := "aaeda5038a77dfa25f9a88e439a16aad5ad42d8ad7f0b45ae1bef2c2736f3911", func := "emendate/emendatelaw27.HypergraphInsideLinear", spec := "hypergraphInsideLinear", unfollowed := true, recurses := true, apart := false, narrowed := true }
def HypergraphInsideLinearUptoSaid : Prop := hypergraphInsideLinearUptoRow.holds Try.pinned (OpenSpec.upto hypergraphInsideLinearSpec)

end Rows
end Go.Proofs.Ytjoejkfchnooaaa
