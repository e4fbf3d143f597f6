/-
  NARROWER THAN 'FOR EVERY INPUT', by the rows' own cells (each row's printed sentence says how): TopLexerMatchesRegexes: laid · TopDiffAndRelex: laid.
  DERIVED. THE GIVEN ROWS OF THIS SEAT. 2 by the template 'for every input the law returns true; each argument reads behind the call as it read before'; 0 by the template 'total and deterministic' (their statements: YtlgpacpebjechaaGreatDoorTotals.lean).
  GIVEN WITH THE SEED: the statements are not yours to turn. If you find one false, say at which input.
  Laid BY PROGRAM, IN A SANDBOX (cutbox-rows.mjs): the forced cells as the released guide's own fill.sh prints them over the translation ade964948d736e9d… (all of the seat's roots in one cut). By AI agents, Wed Nov 11 2026. No macro, syntax, notation, axiom, sorry.
-/
import Derived.Test.YtlgpacpebjechaaGreatDoorChecked
import GoSem.Claim
import GoSem.ClaimJoined
import GoSem.ClaimMapViews
import Derived.JoinedTies
import Derived.KernelRfl
namespace Go.Proofs.YtlgpacpebjechaaGreatDoor
/- THE CELL 'sum', in the pinned program and in every row, IS THE sha256 OF THE DUMP (.gsa) THAT YtlgpacpebjechaaGreatDoorProg.lean LOADS. Nothing in Lean hashes anything: it is a label: what it is worth is what the hold of that sum in a sandbox is worth. -/
noncomputable def Tryz.pinned : Pinned := { name := "ytlgpacpebjechaagreatdoor", sum := "ade964948d736e9dc056f77fae3418561bf8454c55808cbec1af3b85ffb2dd6b", checked := Tryz.checked }
namespace Rows
def none {H : Type} : Left H := { results := [], args := [] }

/- WHAT THE LISTED PACKAGE-LEVEL VARIABLES READ AS WHEN THE CALL BEGINS. Each datum BY PROGRAM (the guide's laid-datum.mjs) off the statement by which the dump's own 'gosem.cut.vars' lays the variable. In a bare row this is a premise. The card (YtlgpacpebjechaaGreatDoorCards.lean) ties it to the program's text. -/
def laid_emendate_lexspec_layoutTerms {H : Type} : DataW H := .agg [.lit (.string [110, 101, 119, 108, 105, 110, 101]), .lit (.string [105, 110, 100, 101, 110, 116]), .lit (.string [100, 101, 100, 101, 110, 116])]

/-- 'emendatetop.TopLexerMatchesRegexes': WHATEVER THE INPUT: true; the input reads as it did. -/
def topLexerMatchesRegexesSpec : ChangeSpec := { name := "topLexerMatchesRegexes", fn := fun _ => fun
  | [d] => { results := [.lit (.bool true)], args := [d] }
  | _ => none }
def topLexerMatchesRegexesRow : OpenClaim := { program := "ytlgpacpebjechaagreatdoor", sum := "ade964948d736e9dc056f77fae3418561bf8454c55808cbec1af3b85ffb2dd6b", func := "emendate/emendatetop.TopLexerMatchesRegexes", spec := "topLexerMatchesRegexes", inPlace := ["internal/bytealg.IndexByteString"], unfollowed := true, recurses := true, named := ["emendate/lexspec.layoutTerms"], plainKeys := false, apart := false, laid := [("emendate/lexspec.layoutTerms", laid_emendate_lexspec_layoutTerms)] }
def TopLexerMatchesRegexesSaid : Prop := topLexerMatchesRegexesRow.holds Tryz.pinned (OpenSpec.ofChange topLexerMatchesRegexesSpec)

/-- ITS FALSE NEIGHBOUR: 'it returns false'. Refute it at one input. -/
def topLexerMatchesRegexesWrong : ChangeSpec := { name := "topLexerMatchesRegexes", fn := fun _ => fun
  | [d] => { results := [.lit (.bool false)], args := [d] }
  | _ => none }
def TopLexerMatchesRegexesWrongFalsely : Prop := topLexerMatchesRegexesRow.holds Tryz.pinned (OpenSpec.ofChange topLexerMatchesRegexesWrong)

/-- 'emendatetop.TopDiffAndRelex': WHATEVER THE INPUT: true; the input reads as it did. -/
def topDiffAndRelexSpec : ChangeSpec := { name := "topDiffAndRelex", fn := fun _ => fun
  | [d1, d2] => { results := [.lit (.bool true)], args := [d1, d2] }
  | _ => none }
def topDiffAndRelexRow : OpenClaim := { program := "ytlgpacpebjechaagreatdoor", sum := "ade964948d736e9dc056f77fae3418561bf8454c55808cbec1af3b85ffb2dd6b", func := "emendate/emendatetop.TopDiffAndRelex", spec := "topDiffAndRelex", inPlace := ["internal/bytealg.IndexByteString"], unfollowed := true, recurses := true, named := ["emendate/lexspec.layoutTerms"], plainKeys := false, apart := false, laid := [("emendate/lexspec.layoutTerms", laid_emendate_lexspec_layoutTerms)] }
def TopDiffAndRelexSaid : Prop := topDiffAndRelexRow.holds Tryz.pinned (OpenSpec.ofChange topDiffAndRelexSpec)

/-- ITS FALSE NEIGHBOUR: 'it returns false'. Refute it at one input. -/
def topDiffAndRelexWrong : ChangeSpec := { name := "topDiffAndRelex", fn := fun _ => fun
  | [d1, d2] => { results := [.lit (.bool false)], args := [d1, d2] }
  | _ => none }
def TopDiffAndRelexWrongFalsely : Prop := topDiffAndRelexRow.holds Tryz.pinned (OpenSpec.ofChange topDiffAndRelexWrong)

/- THE SECOND FORM. 'bulk': how many values and letters a reading holds, each counted each time it is reached (what is shared counts as often as it is met; a slice's spare places count too). A statement '..UptoSaid' is the law's where the arguments, and the package variables that the reading takes, are together of bulk at most 1048576: NARROWER than '..Said'. Prove '..Said' where nothing that the law and all that it calls make is longer than what came in: it says more and counts as full. Else prove '..UptoSaid'. A law counts once. -/
mutual
def uptoBulk {H : Type} : DataW H → Nat
  | .lit (.string bytes) => bytes.length + 1
  | .lit _ => 1
  | .nil => 1
  | .ptr d => uptoBulk d + 1
  | .slice elems spare => uptoBulkAll elems + uptoBulkAll spare + 1
  | .agg parts => uptoBulkAll parts + 1
  | .iface _ d => uptoBulk d + 1
  | .map entries => uptoBulkEntries entries + 1
  | .held _ => 1
def uptoBulkAll {H : Type} : List (DataW H) → Nat
  | [] => 0
  | d :: r => uptoBulk d + uptoBulkAll r
def uptoBulkEntries {H : Type} : List (Lit × DataW H) → Nat
  | [] => 0
  | x :: r => uptoBulkEntry x + uptoBulkEntries r
def uptoBulkEntry {H : Type} : Lit × DataW H → Nat
  | (.string bytes, d) => bytes.length + uptoBulk d + 1
  | (_, d) => uptoBulk d + 1
 end
def uptoSmall : (H : Type) → List (DataW H) → Bool := fun _ ds => decide (uptoBulkAll ds ≤ 1048576)
def OpenSpec.upto (s : _root_.Go.ChangeSpec) : _root_.Go.OpenSpec := { _root_.Go.OpenSpec.ofChange s with cond := some uptoSmall }

/-- 'emendatetop.TopLexerMatchesRegexes', WHERE WHAT IT READS IS OF BULK AT MOST 1048576: true; the input reads as it did. -/
def topLexerMatchesRegexesUptoRow : OpenClaim := { program := "ytlgpacpebjechaagreatdoor", sum := "ade964948d736e9dc056f77fae3418561bf8454c55808cbec1af3b85ffb2dd6b", func := "emendate/emendatetop.TopLexerMatchesRegexes", spec := "topLexerMatchesRegexes", inPlace := ["internal/bytealg.IndexByteString"], unfollowed := true, recurses := true, named := ["emendate/lexspec.layoutTerms"], plainKeys := false, apart := false, laid := [("emendate/lexspec.layoutTerms", laid_emendate_lexspec_layoutTerms)], narrowed := true }
def TopLexerMatchesRegexesUptoSaid : Prop := topLexerMatchesRegexesUptoRow.holds Tryz.pinned (OpenSpec.upto topLexerMatchesRegexesSpec)

/-- 'emendatetop.TopDiffAndRelex', WHERE WHAT IT READS IS OF BULK AT MOST 1048576: true; the input reads as it did. -/
def topDiffAndRelexUptoRow : OpenClaim := { program := "ytlgpacpebjechaagreatdoor", sum := "ade964948d736e9dc056f77fae3418561bf8454c55808cbec1af3b85ffb2dd6b", func := "emendate/emendatetop.TopDiffAndRelex", spec := "topDiffAndRelex", inPlace := ["internal/bytealg.IndexByteString"], unfollowed := true, recurses := true, named := ["emendate/lexspec.layoutTerms"], plainKeys := false, apart := false, laid := [("emendate/lexspec.layoutTerms", laid_emendate_lexspec_layoutTerms)], narrowed := true }
def TopDiffAndRelexUptoSaid : Prop := topDiffAndRelexUptoRow.holds Tryz.pinned (OpenSpec.upto topDiffAndRelexSpec)

end Rows
end Go.Proofs.YtlgpacpebjechaaGreatDoor
