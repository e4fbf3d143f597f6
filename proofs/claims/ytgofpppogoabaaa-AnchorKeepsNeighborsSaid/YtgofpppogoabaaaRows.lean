/-
  No cell of these rows narrows 'for every input' (looked for: loops, veiled, ifaces, maps, wideKeys, modest, calm, conditions, laid).
  DERIVED. THE GIVEN ROWS OF THIS SEAT. 5 by the template 'for every input the law returns true; each argument reads behind the call as it read before'; 0 by the template 'total and deterministic' (their statements: YtgofpppogoabaaaTotals.lean).
  GIVEN WITH THE SEED: the statements are not yours to turn. If you find one false, say at which input.
  Laid BY PROGRAM, IN A SANDBOX (cutbox-rows.mjs): the forced cells as the released guide's own fill.sh prints them over the translation 063fad3e204b1617… (all of the seat's roots in one cut). By AI agents, Wed Nov 11 2026. No macro, syntax, notation, axiom, sorry.
-/
import Derived.Test.YtgofpppogoabaaaChecked
import GoSem.Claim
import GoSem.ClaimJoined
import GoSem.ClaimMapViews
import Derived.JoinedTies
import Derived.KernelRfl
namespace Go.Proofs.Ytgofpppogoabaaa
/- THE CELL 'sum', in the pinned program and in every row, IS THE sha256 OF THE DUMP (.gsa) THAT YtgofpppogoabaaaProg.lean LOADS. Nothing in Lean hashes anything: it is a label: what it is worth is what the hold of that sum in a sandbox is worth. -/
noncomputable def Try.pinned : Pinned := { name := "ytgofpppogoabaaa", sum := "063fad3e204b1617eb9b1d460c309c26a8f8ba9f5383f5776484105505696d2d", checked := Try.checked }
namespace Rows
def none {H : Type} : Left H := { results := [], args := [] }

/-- 'emendatelaw02.AnchorMove': WHATEVER THE INPUT: true; the input reads as it did. -/
def anchorMoveSpec : ChangeSpec := { name := "anchorMove", fn := fun _ => fun
  | [d1, d2] => { results := [.lit (.bool true)], args := [d1, d2] }
  | _ => none }
def anchorMoveRow : OpenClaim := { program := "ytgofpppogoabaaa", sum := "063fad3e204b1617eb9b1d460c309c26a8f8ba9f5383f5776484105505696d2d", func := "emendate/emendatelaw02.AnchorMove", spec := "anchorMove", apart := false }
def AnchorMoveSaid : Prop := anchorMoveRow.holds Try.pinned (OpenSpec.ofChange anchorMoveSpec)

/-- ITS FALSE NEIGHBOUR: 'it returns false'. Refute it at one input. -/
def anchorMoveWrong : ChangeSpec := { name := "anchorMove", fn := fun _ => fun
  | [d1, d2] => { results := [.lit (.bool false)], args := [d1, d2] }
  | _ => none }
def AnchorMoveWrongFalsely : Prop := anchorMoveRow.holds Try.pinned (OpenSpec.ofChange anchorMoveWrong)

/-- 'emendatelaw02.AnchorStaysInText': WHATEVER THE INPUT: true; the input reads as it did. -/
def anchorStaysInTextSpec : ChangeSpec := { name := "anchorStaysInText", fn := fun _ => fun
  | [d1, d2, d3] => { results := [.lit (.bool true)], args := [d1, d2, d3] }
  | _ => none }
def anchorStaysInTextRow : OpenClaim := { program := "ytgofpppogoabaaa", sum := "063fad3e204b1617eb9b1d460c309c26a8f8ba9f5383f5776484105505696d2d", func := "emendate/emendatelaw02.AnchorStaysInText", spec := "anchorStaysInText", apart := false }
def AnchorStaysInTextSaid : Prop := anchorStaysInTextRow.holds Try.pinned (OpenSpec.ofChange anchorStaysInTextSpec)

/-- ITS FALSE NEIGHBOUR: 'it returns false'. Refute it at one input. -/
def anchorStaysInTextWrong : ChangeSpec := { name := "anchorStaysInText", fn := fun _ => fun
  | [d1, d2, d3] => { results := [.lit (.bool false)], args := [d1, d2, d3] }
  | _ => none }
def AnchorStaysInTextWrongFalsely : Prop := anchorStaysInTextRow.holds Try.pinned (OpenSpec.ofChange anchorStaysInTextWrong)

/-- 'emendatelaw02.AnchorKeepsNeighbors': WHATEVER THE INPUT: true; the input reads as it did. -/
def anchorKeepsNeighborsSpec : ChangeSpec := { name := "anchorKeepsNeighbors", fn := fun _ => fun
  | [d1, d2, d3] => { results := [.lit (.bool true)], args := [d1, d2, d3] }
  | _ => none }
def anchorKeepsNeighborsRow : OpenClaim := { program := "ytgofpppogoabaaa", sum := "063fad3e204b1617eb9b1d460c309c26a8f8ba9f5383f5776484105505696d2d", func := "emendate/emendatelaw02.AnchorKeepsNeighbors", spec := "anchorKeepsNeighbors", apart := false }
def AnchorKeepsNeighborsSaid : Prop := anchorKeepsNeighborsRow.holds Try.pinned (OpenSpec.ofChange anchorKeepsNeighborsSpec)

/-- ITS FALSE NEIGHBOUR: 'it returns false'. Refute it at one input. -/
def anchorKeepsNeighborsWrong : ChangeSpec := { name := "anchorKeepsNeighbors", fn := fun _ => fun
  | [d1, d2, d3] => { results := [.lit (.bool false)], args := [d1, d2, d3] }
  | _ => none }
def AnchorKeepsNeighborsWrongFalsely : Prop := anchorKeepsNeighborsRow.holds Try.pinned (OpenSpec.ofChange anchorKeepsNeighborsWrong)

/-- 'emendatelaw02.AnchorOrder': WHATEVER THE INPUT: true; the input reads as it did. -/
def anchorOrderSpec : ChangeSpec := { name := "anchorOrder", fn := fun _ => fun
  | [d1, d2, d3] => { results := [.lit (.bool true)], args := [d1, d2, d3] }
  | _ => none }
def anchorOrderRow : OpenClaim := { program := "ytgofpppogoabaaa", sum := "063fad3e204b1617eb9b1d460c309c26a8f8ba9f5383f5776484105505696d2d", func := "emendate/emendatelaw02.AnchorOrder", spec := "anchorOrder", apart := false }
def AnchorOrderSaid : Prop := anchorOrderRow.holds Try.pinned (OpenSpec.ofChange anchorOrderSpec)

/-- ITS FALSE NEIGHBOUR: 'it returns false'. Refute it at one input. -/
def anchorOrderWrong : ChangeSpec := { name := "anchorOrder", fn := fun _ => fun
  | [d1, d2, d3] => { results := [.lit (.bool false)], args := [d1, d2, d3] }
  | _ => none }
def AnchorOrderWrongFalsely : Prop := anchorOrderRow.holds Try.pinned (OpenSpec.ofChange anchorOrderWrong)

/-- 'emendatelaw02.AnchorUndo': WHATEVER THE INPUT: true; the input reads as it did. -/
def anchorUndoSpec : ChangeSpec := { name := "anchorUndo", fn := fun _ => fun
  | [d1, d2, d3] => { results := [.lit (.bool true)], args := [d1, d2, d3] }
  | _ => none }
def anchorUndoRow : OpenClaim := { program := "ytgofpppogoabaaa", sum := "063fad3e204b1617eb9b1d460c309c26a8f8ba9f5383f5776484105505696d2d", func := "emendate/emendatelaw02.AnchorUndo", spec := "anchorUndo", apart := false }
def AnchorUndoSaid : Prop := anchorUndoRow.holds Try.pinned (OpenSpec.ofChange anchorUndoSpec)

/-- ITS FALSE NEIGHBOUR: 'it returns false'. Refute it at one input. -/
def anchorUndoWrong : ChangeSpec := { name := "anchorUndo", fn := fun _ => fun
  | [d1, d2, d3] => { results := [.lit (.bool false)], args := [d1, d2, d3] }
  | _ => none }
def AnchorUndoWrongFalsely : Prop := anchorUndoRow.holds Try.pinned (OpenSpec.ofChange anchorUndoWrong)

/- THE SECOND FORM. 'bulk': how many values and letters a reading holds, each counted each time it is reached (what is shared counts as often as it is met; a slice's spare places count too). A statement '..UptoSaid' is the law's where the arguments, and the package variables that the reading takes, are together of bulk at most 1048576: NARROWER than '..Said'. Prove '..Said' where nothing that the law and all that it calls make is longer than what came in: it says more and counts as full. Else prove '..UptoSaid'. A law counts once. -/
mutual
def uptoBulk {H : Type} : DataW H → Nat
  | .lit (.string bytes) => bytes.length + 1
  | .lit _ => 1
  | .nil => 1
  | .ptr d => uptoBulk d + 1
  | .slice elems spare => uptoBulkAll elems + uptoBulkAll spare + 1
  | .agg parts => uptoBulkAll parts + 1
  | .iface _ d => uptoBulk d + 1
  | .map entries => uptoBulkEntries entries + 1
  | .held _ => 1
def uptoBulkAll {H : Type} : List (DataW H) → Nat
  | [] => 0
  | d :: r => uptoBulk d + uptoBulkAll r
def uptoBulkEntries {H : Type} : List (Lit × DataW H) → Nat
  | [] => 0
  | x :: r => uptoBulkEntry x + uptoBulkEntries r
def uptoBulkEntry {H : Type} : Lit × DataW H → Nat
  | (.string bytes, d) => bytes.length + uptoBulk d + 1
  | (_, d) => uptoBulk d + 1
 end
def uptoSmall : (H : Type) → List (DataW H) → Bool := fun _ ds => decide (uptoBulkAll ds ≤ 1048576)
def OpenSpec.upto (s : _root_.Go.ChangeSpec) : _root_.Go.OpenSpec := { _root_.Go.OpenSpec.ofChange s with cond := some uptoSmall }

/-- 'emendatelaw02.AnchorMove', WHERE WHAT IT READS IS OF BULK AT MOST 1048576: true; the input reads as it did. -/
def anchorMoveUptoRow : OpenClaim := { program := "ytgofpppogoabaaa", sum := "063fad3e204b1617eb9b1d460c309c26a8f8ba9f5383f5776484105505696d2d", func := "emendate/emendatelaw02.AnchorMove", spec := "anchorMove", apart := false, narrowed := true }
def AnchorMoveUptoSaid : Prop := anchorMoveUptoRow.holds Try.pinned (OpenSpec.upto anchorMoveSpec)

/-- 'emendatelaw02.AnchorStaysInText', WHERE WHAT IT READS IS OF BULK AT MOST 1048576: true; the input reads as it did. -/
def anchorStaysInTextUptoRow : OpenClaim := { program := "ytgofpppogoabaaa", sum := "063fad3e204b1617eb9b1d460c309c26a8f8ba9f5383f5776484105505696d2d", func := "emendate/emendatelaw02.AnchorStaysInText", spec := "anchorStaysInText", apart := false, narrowed := true }
def AnchorStaysInTextUptoSaid : Prop := anchorStaysInTextUptoRow.holds Try.pinned (OpenSpec.upto anchorStaysInTextSpec)

/-- 'emendatelaw02.AnchorKeepsNeighbors', WHERE WHAT IT READS IS OF BULK AT MOST 1048576: true; the input reads as it did. -/
def anchorKeepsNeighborsUptoRow : OpenClaim := { program := "ytgofpppogoabaaa", sum := "063fad3e204b1617eb9b1d460c309c26a8f8ba9f5383f5776484105505696d2d", func := "emendate/emendatelaw02.AnchorKeepsNeighbors", spec := "anchorKeepsNeighbors", apart := false, narrowed := true }
def AnchorKeepsNeighborsUptoSaid : Prop := anchorKeepsNeighborsUptoRow.holds Try.pinned (OpenSpec.upto anchorKeepsNeighborsSpec)

/-- 'emendatelaw02.AnchorOrder', WHERE WHAT IT READS IS OF BULK AT MOST 1048576: true; the input reads as it did. -/
def anchorOrderUptoRow : OpenClaim := { program := "ytgofpppogoabaaa", sum := "063fad3e204b1617eb9b1d460c309c26a8f8ba9f5383f5776484105505696d2d", func := "emendate/emendatelaw02.AnchorOrder", spec := "anchorOrder", apart := false, narrowed := true }
def AnchorOrderUptoSaid : Prop := anchorOrderUptoRow.holds Try.pinned (OpenSpec.upto anchorOrderSpec)

/-- 'emendatelaw02.AnchorUndo', WHERE WHAT IT READS IS OF BULK AT MOST 1048576: true; the input reads as it did. -/
def anchorUndoUptoRow : OpenClaim := { program := "ytgofpppogoabaaa", sum := "063fad3e204b1617eb9b1d460c309c26a8f8ba9f5383f5776484105505696d2d", func := "emendate/emendatelaw02.AnchorUndo", spec := "anchorUndo", apart := false, narrowed := true }
def AnchorUndoUptoSaid : Prop := anchorUndoUptoRow.holds Try.pinned (OpenSpec.upto anchorUndoSpec)

end Rows
end Go.Proofs.Ytgofpppogoabaaa
