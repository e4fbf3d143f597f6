/-
  NARROWER THAN 'FOR EVERY INPUT', by the rows' own cells (each row's printed sentence says how): ForestContains: loops · ForestDerivations: loops · ForestMembers: loops.
  DERIVED. THE GIVEN ROWS OF THIS SEAT. 9 by the template 'for every input the law returns true; each argument reads behind the call as it read before'; 0 by the template 'total and deterministic' (their statements: YtoiffhoiklafhaaTotals.lean).
  GIVEN WITH THE SEED: the statements are not yours to turn. If you find one false, say at which input.
  Laid BY PROGRAM, IN A SANDBOX (cutbox-rows.mjs): the forced cells as the released guide's own fill.sh prints them over the translation ec4df4f71eeb47d4… (all of the seat's roots in one cut). By AI agents, Wed Nov 11 2026. No macro, syntax, notation, axiom, sorry.
-/
import Derived.Test.YtoiffhoiklafhaaChecked
import GoSem.Claim
import GoSem.ClaimJoined
import GoSem.ClaimMapViews
import Derived.JoinedTies
import Derived.KernelRfl
namespace Go.Proofs.Ytoiffhoiklafhaa
/- THE CELL 'sum', in the pinned program and in every row, IS THE sha256 OF THE DUMP (.gsa) THAT YtoiffhoiklafhaaProg.lean LOADS. Nothing in Lean hashes anything: it is a label: what it is worth is what the hold of that sum in a sandbox is worth. -/
noncomputable def Try.pinned : Pinned := { name := "ytoiffhoiklafhaa", sum := "ec4df4f71eeb47d45733c3a92612661a93be224f5995926d2e276f04d087e61c", checked := Try.checked }
namespace Rows
def none {H : Type} : Left H := { results := [], args := [] }

/-- 'emendatelaw32.ForestTight': WHATEVER THE INPUT: true; the input reads as it did. -/
def forestTightSpec : ChangeSpec := { name := "forestTight", fn := fun _ => fun
  | [d1, d2] => { results := [.lit (.bool true)], args := [d1, d2] }
  | _ => none }
def forestTightRow : OpenClaim := { program := "ytoiffhoiklafhaa", sum := "ec4df4f71eeb47d45733c3a92612661a93be224f5995926d2e276f04d087e61c", func := "emendate/emendatelaw32.ForestTight", spec := "forestTight", unfollowed := true, recurses := true, apart := false }
def ForestTightSaid : Prop := forestTightRow.holds Try.pinned (OpenSpec.ofChange forestTightSpec)

/-- ITS FALSE NEIGHBOUR: 'it returns false'. Refute it at one input. -/
def forestTightWrong : ChangeSpec := { name := "forestTight", fn := fun _ => fun
  | [d1, d2] => { results := [.lit (.bool false)], args := [d1, d2] }
  | _ => none }
def ForestTightWrongFalsely : Prop := forestTightRow.holds Try.pinned (OpenSpec.ofChange forestTightWrong)

/-- 'emendatelaw32.ForestCount': WHATEVER THE INPUT: true; the input reads as it did. -/
def forestCountSpec : ChangeSpec := { name := "forestCount", fn := fun _ => fun
  | [d1, d2] => { results := [.lit (.bool true)], args := [d1, d2] }
  | _ => none }
def forestCountRow : OpenClaim := { program := "ytoiffhoiklafhaa", sum := "ec4df4f71eeb47d45733c3a92612661a93be224f5995926d2e276f04d087e61c", func := "emendate/emendatelaw32.ForestCount", spec := "forestCount", unfollowed := true, recurses := true, apart := false }
def ForestCountSaid : Prop := forestCountRow.holds Try.pinned (OpenSpec.ofChange forestCountSpec)

/-- ITS FALSE NEIGHBOUR: 'it returns false'. Refute it at one input. -/
def forestCountWrong : ChangeSpec := { name := "forestCount", fn := fun _ => fun
  | [d1, d2] => { results := [.lit (.bool false)], args := [d1, d2] }
  | _ => none }
def ForestCountWrongFalsely : Prop := forestCountRow.holds Try.pinned (OpenSpec.ofChange forestCountWrong)

/-- 'emendatelaw32.ForestContains': WHATEVER THE INPUT: true; the input reads as it did. -/
def forestContainsSpec : ChangeSpec := { name := "forestContains", fn := fun _ => fun
  | [d1, d2, d3] => { results := [.lit (.bool true)], args := [d1, d2, d3] }
  | _ => none }
def forestContainsRow : OpenClaim := { program := "ytoiffhoiklafhaa", sum := "ec4df4f71eeb47d45733c3a92612661a93be224f5995926d2e276f04d087e61c", func := "emendate/emendatelaw32.ForestContains", spec := "forestContains", unfollowed := true, recurses := true, loops := true, apart := false }
def ForestContainsSaid : Prop := forestContainsRow.holds Try.pinned (OpenSpec.ofChange forestContainsSpec)

/-- ITS FALSE NEIGHBOUR: 'it returns false'. Refute it at one input. -/
def forestContainsWrong : ChangeSpec := { name := "forestContains", fn := fun _ => fun
  | [d1, d2, d3] => { results := [.lit (.bool false)], args := [d1, d2, d3] }
  | _ => none }
def ForestContainsWrongFalsely : Prop := forestContainsRow.holds Try.pinned (OpenSpec.ofChange forestContainsWrong)

/-- 'emendatelaw32.ForestAcyclic': WHATEVER THE INPUT: true; the input reads as it did. -/
def forestAcyclicSpec : ChangeSpec := { name := "forestAcyclic", fn := fun _ => fun
  | [d1, d2] => { results := [.lit (.bool true)], args := [d1, d2] }
  | _ => none }
def forestAcyclicRow : OpenClaim := { program := "ytoiffhoiklafhaa", sum := "ec4df4f71eeb47d45733c3a92612661a93be224f5995926d2e276f04d087e61c", func := "emendate/emendatelaw32.ForestAcyclic", spec := "forestAcyclic", unfollowed := true, recurses := true, apart := false }
def ForestAcyclicSaid : Prop := forestAcyclicRow.holds Try.pinned (OpenSpec.ofChange forestAcyclicSpec)

/-- ITS FALSE NEIGHBOUR: 'it returns false'. Refute it at one input. -/
def forestAcyclicWrong : ChangeSpec := { name := "forestAcyclic", fn := fun _ => fun
  | [d1, d2] => { results := [.lit (.bool false)], args := [d1, d2] }
  | _ => none }
def ForestAcyclicWrongFalsely : Prop := forestAcyclicRow.holds Try.pinned (OpenSpec.ofChange forestAcyclicWrong)

/-- 'emendatelaw32.ForestInside': WHATEVER THE INPUT: true; the input reads as it did. -/
def forestInsideSpec : ChangeSpec := { name := "forestInside", fn := fun _ => fun
  | [d1, d2] => { results := [.lit (.bool true)], args := [d1, d2] }
  | _ => none }
def forestInsideRow : OpenClaim := { program := "ytoiffhoiklafhaa", sum := "ec4df4f71eeb47d45733c3a92612661a93be224f5995926d2e276f04d087e61c", func := "emendate/emendatelaw32.ForestInside", spec := "forestInside", unfollowed := true, recurses := true, apart := false }
def ForestInsideSaid : Prop := forestInsideRow.holds Try.pinned (OpenSpec.ofChange forestInsideSpec)

/-- ITS FALSE NEIGHBOUR: 'it returns false'. Refute it at one input. -/
def forestInsideWrong : ChangeSpec := { name := "forestInside", fn := fun _ => fun
  | [d1, d2] => { results := [.lit (.bool false)], args := [d1, d2] }
  | _ => none }
def ForestInsideWrongFalsely : Prop := forestInsideRow.holds Try.pinned (OpenSpec.ofChange forestInsideWrong)

/-- 'emendatelaw32.ForestDerivations': WHATEVER THE INPUT: true; the input reads as it did. -/
def forestDerivationsSpec : ChangeSpec := { name := "forestDerivations", fn := fun _ => fun
  | [d1, d2, d3] => { results := [.lit (.bool true)], args := [d1, d2, d3] }
  | _ => none }
def forestDerivationsRow : OpenClaim := { program := "ytoiffhoiklafhaa", sum := "ec4df4f71eeb47d45733c3a92612661a93be224f5995926d2e276f04d087e61c", func := "emendate/emendatelaw32.ForestDerivations", spec := "forestDerivations", unfollowed := true, recurses := true, loops := true, apart := false }
def ForestDerivationsSaid : Prop := forestDerivationsRow.holds Try.pinned (OpenSpec.ofChange forestDerivationsSpec)

/-- ITS FALSE NEIGHBOUR: 'it returns false'. Refute it at one input. -/
def forestDerivationsWrong : ChangeSpec := { name := "forestDerivations", fn := fun _ => fun
  | [d1, d2, d3] => { results := [.lit (.bool false)], args := [d1, d2, d3] }
  | _ => none }
def ForestDerivationsWrongFalsely : Prop := forestDerivationsRow.holds Try.pinned (OpenSpec.ofChange forestDerivationsWrong)

/-- 'emendatelaw32.ForestMembers': WHATEVER THE INPUT: true; the input reads as it did. -/
def forestMembersSpec : ChangeSpec := { name := "forestMembers", fn := fun _ => fun
  | [d1, d2, d3] => { results := [.lit (.bool true)], args := [d1, d2, d3] }
  | _ => none }
def forestMembersRow : OpenClaim := { program := "ytoiffhoiklafhaa", sum := "ec4df4f71eeb47d45733c3a92612661a93be224f5995926d2e276f04d087e61c", func := "emendate/emendatelaw32.ForestMembers", spec := "forestMembers", unfollowed := true, recurses := true, loops := true, apart := false }
def ForestMembersSaid : Prop := forestMembersRow.holds Try.pinned (OpenSpec.ofChange forestMembersSpec)

/-- ITS FALSE NEIGHBOUR: 'it returns false'. Refute it at one input. -/
def forestMembersWrong : ChangeSpec := { name := "forestMembers", fn := fun _ => fun
  | [d1, d2, d3] => { results := [.lit (.bool false)], args := [d1, d2, d3] }
  | _ => none }
def ForestMembersWrongFalsely : Prop := forestMembersRow.holds Try.pinned (OpenSpec.ofChange forestMembersWrong)

/-- 'emendatelaw32.ForestIdempotent': WHATEVER THE INPUT: true; the input reads as it did. -/
def forestIdempotentSpec : ChangeSpec := { name := "forestIdempotent", fn := fun _ => fun
  | [d1, d2] => { results := [.lit (.bool true)], args := [d1, d2] }
  | _ => none }
def forestIdempotentRow : OpenClaim := { program := "ytoiffhoiklafhaa", sum := "ec4df4f71eeb47d45733c3a92612661a93be224f5995926d2e276f04d087e61c", func := "emendate/emendatelaw32.ForestIdempotent", spec := "forestIdempotent", unfollowed := true, recurses := true, apart := false }
def ForestIdempotentSaid : Prop := forestIdempotentRow.holds Try.pinned (OpenSpec.ofChange forestIdempotentSpec)

/-- ITS FALSE NEIGHBOUR: 'it returns false'. Refute it at one input. -/
def forestIdempotentWrong : ChangeSpec := { name := "forestIdempotent", fn := fun _ => fun
  | [d1, d2] => { results := [.lit (.bool false)], args := [d1, d2] }
  | _ => none }
def ForestIdempotentWrongFalsely : Prop := forestIdempotentRow.holds Try.pinned (OpenSpec.ofChange forestIdempotentWrong)

/-- 'emendatelaw32.ForestBest': WHATEVER THE INPUT: true; the input reads as it did. -/
def forestBestSpec : ChangeSpec := { name := "forestBest", fn := fun _ => fun
  | [d1, d2] => { results := [.lit (.bool true)], args := [d1, d2] }
  | _ => none }
def forestBestRow : OpenClaim := { program := "ytoiffhoiklafhaa", sum := "ec4df4f71eeb47d45733c3a92612661a93be224f5995926d2e276f04d087e61c", func := "emendate/emendatelaw32.ForestBest", spec := "forestBest", unfollowed := true, recurses := true, apart := false }
def ForestBestSaid : Prop := forestBestRow.holds Try.pinned (OpenSpec.ofChange forestBestSpec)

/-- ITS FALSE NEIGHBOUR: 'it returns false'. Refute it at one input. -/
def forestBestWrong : ChangeSpec := { name := "forestBest", fn := fun _ => fun
  | [d1, d2] => { results := [.lit (.bool false)], args := [d1, d2] }
  | _ => none }
def ForestBestWrongFalsely : Prop := forestBestRow.holds Try.pinned (OpenSpec.ofChange forestBestWrong)

/- THE SECOND FORM. 'bulk': how many values and letters a reading holds, each counted each time it is reached (what is shared counts as often as it is met; a slice's spare places count too). A statement '..UptoSaid' is the law's where the arguments, and the package variables that the reading takes, are together of bulk at most 1048576: NARROWER than '..Said'. Prove '..Said' where nothing that the law and all that it calls make is longer than what came in: it says more and counts as full. Else prove '..UptoSaid'. A law counts once. -/
mutual
def uptoBulk {H : Type} : DataW H → Nat
  | .lit (.string bytes) => bytes.length + 1
  | .lit _ => 1
  | .nil => 1
  | .ptr d => uptoBulk d + 1
  | .slice elems spare => uptoBulkAll elems + uptoBulkAll spare + 1
  | .agg parts => uptoBulkAll parts + 1
  | .iface _ d => uptoBulk d + 1
  | .map entries => uptoBulkEntries entries + 1
  | .held _ => 1
def uptoBulkAll {H : Type} : List (DataW H) → Nat
  | [] => 0
  | d :: r => uptoBulk d + uptoBulkAll r
def uptoBulkEntries {H : Type} : List (Lit × DataW H) → Nat
  | [] => 0
  | x :: r => uptoBulkEntry x + uptoBulkEntries r
def uptoBulkEntry {H : Type} : Lit × DataW H → Nat
  | (.string bytes, d) => bytes.length + uptoBulk d + 1
  | (_, d) => uptoBulk d + 1
 end
def uptoSmall : (H : Type) → List (DataW H) → Bool := fun _ ds => decide (uptoBulkAll ds ≤ 1048576)
def OpenSpec.upto (s : _root_.Go.ChangeSpec) : _root_.Go.OpenSpec := { _root_.Go.OpenSpec.ofChange s with cond := some uptoSmall }

/-- 'emendatelaw32.ForestTight', WHERE WHAT IT READS IS OF BULK AT MOST 1048576: true; the input reads as it did. -/
def forestTightUptoRow : OpenClaim := { program := "ytoiffhoiklafhaa", sum := "ec4df4f71eeb47d45733c3a92612661a93be224f5995926d2e276f04d087e61c", func := "emendate/emendatelaw32.ForestTight", spec := "forestTight", unfollowed := true, recurses := true, apart := false, narrowed := true }
def ForestTightUptoSaid : Prop := forestTightUptoRow.holds Try.pinned (OpenSpec.upto forestTightSpec)

/-- 'emendatelaw32.ForestCount', WHERE WHAT IT READS IS OF BULK AT MOST 1048576: true; the input reads as it did. -/
def forestCountUptoRow : OpenClaim := { program := "ytoiffhoiklafhaa", sum := "ec4df4f71eeb47d45733c3a92612661a93be224f5995926d2e276f04d087e61c", func := "emendate/emendatelaw32.ForestCount", spec := "forestCount", unfollowed := true, recurses := true, apart := false, narrowed := true }
def ForestCountUptoSaid : Prop := forestCountUptoRow.holds Try.pinned (OpenSpec.upto forestCountSpec)

/-- 'emendatelaw32.ForestContains', WHERE WHAT IT READS IS OF BULK AT MOST 1048576: true; the input reads as it did. -/
def forestContainsUptoRow : OpenClaim := { program := "ytoiffhoiklafhaa", sum := "ec4df4f71eeb47d45733c3a92612661a93be224f5995926d2e276f04d087e61c", func := "emendate/emendatelaw32.ForestContains", spec := "forestContains", unfollowed := true, recurses := true, loops := true, apart := false, narrowed := true }
def ForestContainsUptoSaid : Prop := forestContainsUptoRow.holds Try.pinned (OpenSpec.upto forestContainsSpec)

/-- 'emendatelaw32.ForestAcyclic', WHERE WHAT IT READS IS OF BULK AT MOST 1048576: true; the input reads as it did. -/
def forestAcyclicUptoRow : OpenClaim := { program := "ytoiffhoiklafhaa", sum := "ec4df4f71eeb47d45733c3a92612661a93be224f5995926d2e276f04d087e61c", func := "emendate/emendatelaw32.ForestAcyclic", spec := "forestAcyclic", unfollowed := true, recurses := true, apart := false, narrowed := true }
def ForestAcyclicUptoSaid : Prop := forestAcyclicUptoRow.holds Try.pinned (OpenSpec.upto forestAcyclicSpec)

/-- 'emendatelaw32.ForestInside', WHERE WHAT IT READS IS OF BULK AT MOST 1048576: true; the input reads as it did. -/
def forestInsideUptoRow : OpenClaim := { program := "ytoiffhoiklafhaa", sum := "ec4df4f71eeb47d45733c3a92612661a93be224f5995926d2e276f04d087e61c", func := "emendate/emendatelaw32.ForestInside", spec := "forestInside", unfollowed := true, recurses := true, apart := false, narrowed := true }
def ForestInsideUptoSaid : Prop := forestInsideUptoRow.holds Try.pinned (OpenSpec.upto forestInsideSpec)

/-- 'emendatelaw32.ForestDerivations', WHERE WHAT IT READS IS OF BULK AT MOST 1048576: true; the input reads as it did. -/
def forestDerivationsUptoRow : OpenClaim := { program := "ytoiffhoiklafhaa", sum := "ec4df4f71eeb47d45733c3a92612661a93be224f5995926d2e276f04d087e61c", func := "emendate/emendatelaw32.ForestDerivations", spec := "forestDerivations", unfollowed := true, recurses := true, loops := true, apart := false, narrowed := true }
def ForestDerivationsUptoSaid : Prop := forestDerivationsUptoRow.holds Try.pinned (OpenSpec.upto forestDerivationsSpec)

/-- 'emendatelaw32.ForestMembers', WHERE WHAT IT READS IS OF BULK AT MOST 1048576: true; the input reads as it did. -/
def forestMembersUptoRow : OpenClaim := { program := "ytoiffhoiklafhaa", sum := "ec4df4f71eeb47d45733c3a92612661a93be224f5995926d2e276f04d087e61c", func := "emendate/emendatelaw32.ForestMembers", spec := "forestMembers", unfollowed := true, recurses := true, loops := true, apart := false, narrowed := true }
def ForestMembersUptoSaid : Prop := forestMembersUptoRow.holds Try.pinned (OpenSpec.upto forestMembersSpec)

/-- 'emendatelaw32.ForestIdempotent', WHERE WHAT IT READS IS OF BULK AT MOST 1048576: true; the input reads as it did. -/
def forestIdempotentUptoRow : OpenClaim := { program := "ytoiffhoiklafhaa", sum := "ec4df4f71eeb47d45733c3a92612661a93be224f5995926d2e276f04d087e61c", func := "emendate/emendatelaw32.ForestIdempotent", spec := "forestIdempotent", unfollowed := true, recurses := true, apart := false, narrowed := true }
def ForestIdempotentUptoSaid : Prop := forestIdempotentUptoRow.holds Try.pinned (OpenSpec.upto forestIdempotentSpec)

/-- 'emendatelaw32.ForestBest', WHERE WHAT IT READS IS OF BULK AT MOST 1048576: true; the input reads as it did. -/
def forestBestUptoRow : OpenClaim := { program := "ytoiffhoiklafhaa", sum := "ec4df4f71eeb47d45733c3a92612661a93be224f5995926d2e276f04d087e61c", func := "emendate/emendatelaw32.ForestBest", spec := "forestBest", unfollowed := true, recurses := true, apart := false, narrowed := true }
def ForestBestUptoSaid : Prop := forestBestUptoRow.holds Try.pinned (OpenSpec.upto forestBestSpec)

end Rows
end Go.Proofs.Ytoiffhoiklafhaa
