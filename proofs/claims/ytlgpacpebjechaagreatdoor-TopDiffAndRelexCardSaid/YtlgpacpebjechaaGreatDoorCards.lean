/-
  DERIVED. GIVEN WITH THE SEED: THE CARDS: each row of YtlgpacpebjechaaGreatDoorRows.lean that lists a variable, with what it lists TIED to the program's text (the seventh form; the later family's looks); each row that meets fmt, with fmt's text TOLD by the authors' own Lean function (tested against real Go, not proved from fmt's source: count such statements apart). THE CARD IS WHAT COUNTS. Prove the row's statement (the work); the ties are given (YtlgpacpebjechaaGreatDoorTie.lean); close each card by the builder's one call (the guide's Derived/Test/ToyasCard.lean, 'card_holds'). Laid BY PROGRAM, IN A SANDBOX (cutbox-door.mjs). By AI agents, Wed Nov 11 2026. No macro, syntax, notation, axiom, sorry.
-/
import Derived.Test.YtlgpacpebjechaaGreatDoorRows
import GoSem.ClaimSeven
namespace Go.Proofs.YtlgpacpebjechaaGreatDoor
namespace Rows

/-- THE TIED CARD OF 'emendatetop.TopLexerMatchesRegexes'. -/
def topLexerMatchesRegexesCard : Claim7 := { stood := { row := topLexerMatchesRegexesRow, standIns := [], harness := (true, "bcea3e1cb746038906ca0559e960882b074dc0443d15e211ec6c898762ed7235"), looks := true }, kinds := [], alts := [], laidByText := true, laidKinds := [.widerDeep], laidTests := true, laidLooks := .later }
def TopLexerMatchesRegexesCardSaid : Prop := Claim7.holds Tryz.pinned (.plain (OpenSpec.ofChange topLexerMatchesRegexesSpec)) topLexerMatchesRegexesCard

/-- THE TIED CARD OF 'emendatetop.TopDiffAndRelex'. -/
def topDiffAndRelexCard : Claim7 := { stood := { row := topDiffAndRelexRow, standIns := [], harness := (true, "bcea3e1cb746038906ca0559e960882b074dc0443d15e211ec6c898762ed7235"), looks := true }, kinds := [], alts := [], laidByText := true, laidKinds := [.widerDeep], laidTests := true, laidLooks := .later }
def TopDiffAndRelexCardSaid : Prop := Claim7.holds Tryz.pinned (.plain (OpenSpec.ofChange topDiffAndRelexSpec)) topDiffAndRelexCard

/-- THE SECOND FORM's CARD OF 'emendatetop.TopLexerMatchesRegexes'. -/
def topLexerMatchesRegexesUptoCard : Claim7 := { stood := { row := topLexerMatchesRegexesUptoRow, standIns := [], harness := (true, "bcea3e1cb746038906ca0559e960882b074dc0443d15e211ec6c898762ed7235"), looks := true }, kinds := [], alts := [], laidByText := true, laidKinds := [.widerDeep], laidTests := true, laidLooks := .later }
def TopLexerMatchesRegexesUptoCardSaid : Prop := Claim7.holds Tryz.pinned (.plain (OpenSpec.upto topLexerMatchesRegexesSpec)) topLexerMatchesRegexesUptoCard

/-- THE SECOND FORM's CARD OF 'emendatetop.TopDiffAndRelex'. -/
def topDiffAndRelexUptoCard : Claim7 := { stood := { row := topDiffAndRelexUptoRow, standIns := [], harness := (true, "bcea3e1cb746038906ca0559e960882b074dc0443d15e211ec6c898762ed7235"), looks := true }, kinds := [], alts := [], laidByText := true, laidKinds := [.widerDeep], laidTests := true, laidLooks := .later }
def TopDiffAndRelexUptoCardSaid : Prop := Claim7.holds Tryz.pinned (.plain (OpenSpec.upto topDiffAndRelexSpec)) topDiffAndRelexUptoCard
end Rows
end Go.Proofs.YtlgpacpebjechaaGreatDoor
