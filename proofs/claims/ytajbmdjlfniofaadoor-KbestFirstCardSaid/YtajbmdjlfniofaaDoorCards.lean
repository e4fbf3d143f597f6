/-
  DERIVED. GIVEN WITH THE SEED: THE CARDS: each row of YtajbmdjlfniofaaDoorRows.lean that lists a variable, with what it lists TIED to the program's text (the seventh form; the later family's looks); each row that meets fmt, with fmt's text TOLD by the authors' own Lean function (tested against real Go, not proved from fmt's source: count such statements apart). THE CARD IS WHAT COUNTS. Prove the row's statement (the work); the ties are given (YtajbmdjlfniofaaDoorTie.lean); close each card by the builder's one call (the guide's Derived/Test/ToyasCard.lean, 'card_holds'). Laid BY PROGRAM, IN A SANDBOX (cutbox-door.mjs). By AI agents, Wed Nov 11 2026. No macro, syntax, notation, axiom, sorry.
-/
import Derived.Test.YtajbmdjlfniofaaDoorRows
import GoSem.ClaimSeven
namespace Go.Proofs.YtajbmdjlfniofaaDoor
namespace Rows

/-- THE TIED CARD OF 'emendatelaw31.KbestFirst'. -/
def kbestFirstCard : Claim7 := { stood := { row := kbestFirstRow, standIns := [], harness := (true, "e909c2b0b3611a62978d358d09c25825e9c92bb1ee2994ff55226c56a6bce665"), looks := false }, kinds := [], alts := [], laidByText := true, laidKinds := [.data, .data, .data], laidTests := true, laidLooks := .later }
def KbestFirstCardSaid : Prop := Claim7.holds Tryd.pinned (.plain (OpenSpec.ofChange kbestFirstSpec)) kbestFirstCard

/-- THE TIED CARD OF 'emendatelaw31.KbestIterate'. -/
def kbestIterateCard : Claim7 := { stood := { row := kbestIterateRow, standIns := [], harness := (true, "e909c2b0b3611a62978d358d09c25825e9c92bb1ee2994ff55226c56a6bce665"), looks := false }, kinds := [], alts := [], laidByText := true, laidKinds := [.data, .data, .data], laidTests := true, laidLooks := .later }
def KbestIterateCardSaid : Prop := Claim7.holds Tryd.pinned (.plain (OpenSpec.ofChange kbestIterateSpec)) kbestIterateCard

/-- THE TIED CARD OF 'emendatelaw31.KbestOrder'. -/
def kbestOrderCard : Claim7 := { stood := { row := kbestOrderRow, standIns := [], harness := (true, "e909c2b0b3611a62978d358d09c25825e9c92bb1ee2994ff55226c56a6bce665"), looks := false }, kinds := [], alts := [], laidByText := true, laidKinds := [.data, .data, .data], laidTests := true, laidLooks := .later }
def KbestOrderCardSaid : Prop := Claim7.holds Tryd.pinned (.plain (OpenSpec.ofChange kbestOrderSpec)) kbestOrderCard

/-- THE TIED CARD OF 'emendatelaw31.KbestComplete'. -/
def kbestCompleteCard : Claim7 := { stood := { row := kbestCompleteRow, standIns := [], harness := (true, "e909c2b0b3611a62978d358d09c25825e9c92bb1ee2994ff55226c56a6bce665"), looks := false }, kinds := [], alts := [], laidByText := true, laidKinds := [.data, .data, .data], laidTests := true, laidLooks := .later }
def KbestCompleteCardSaid : Prop := Claim7.holds Tryd.pinned (.plain (OpenSpec.ofChange kbestCompleteSpec)) kbestCompleteCard

/-- THE TIED CARD OF 'emendatelaw31.KbestBest'. -/
def kbestBestCard : Claim7 := { stood := { row := kbestBestRow, standIns := [], harness := (true, "e909c2b0b3611a62978d358d09c25825e9c92bb1ee2994ff55226c56a6bce665"), looks := false }, kinds := [], alts := [], laidByText := true, laidKinds := [.data, .data, .data], laidTests := true, laidLooks := .later }
def KbestBestCardSaid : Prop := Claim7.holds Tryd.pinned (.plain (OpenSpec.ofChange kbestBestSpec)) kbestBestCard

/-- THE TIED CARD OF 'emendatelaw31.KbestPrefix'. -/
def kbestPrefixCard : Claim7 := { stood := { row := kbestPrefixRow, standIns := [], harness := (true, "e909c2b0b3611a62978d358d09c25825e9c92bb1ee2994ff55226c56a6bce665"), looks := false }, kinds := [], alts := [], laidByText := true, laidKinds := [.data, .data, .data], laidTests := true, laidLooks := .later }
def KbestPrefixCardSaid : Prop := Claim7.holds Tryd.pinned (.plain (OpenSpec.ofChange kbestPrefixSpec)) kbestPrefixCard

/-- THE TIED CARD OF 'emendatelaw31.KbestEdges'. -/
def kbestEdgesCard : Claim7 := { stood := { row := kbestEdgesRow, standIns := [], harness := (true, "e909c2b0b3611a62978d358d09c25825e9c92bb1ee2994ff55226c56a6bce665"), looks := false }, kinds := [], alts := [], laidByText := true, laidKinds := [.data, .data, .data], laidTests := true, laidLooks := .later }
def KbestEdgesCardSaid : Prop := Claim7.holds Tryd.pinned (.plain (OpenSpec.ofChange kbestEdgesSpec)) kbestEdgesCard

/-- THE SECOND FORM's CARD OF 'emendatelaw31.KbestFirst'. -/
def kbestFirstUptoCard : Claim7 := { stood := { row := kbestFirstUptoRow, standIns := [], harness := (true, "e909c2b0b3611a62978d358d09c25825e9c92bb1ee2994ff55226c56a6bce665"), looks := false }, kinds := [], alts := [], laidByText := true, laidKinds := [.data, .data, .data], laidTests := true, laidLooks := .later }
def KbestFirstUptoCardSaid : Prop := Claim7.holds Tryd.pinned (.plain (OpenSpec.upto kbestFirstSpec)) kbestFirstUptoCard

/-- THE SECOND FORM's CARD OF 'emendatelaw31.KbestIterate'. -/
def kbestIterateUptoCard : Claim7 := { stood := { row := kbestIterateUptoRow, standIns := [], harness := (true, "e909c2b0b3611a62978d358d09c25825e9c92bb1ee2994ff55226c56a6bce665"), looks := false }, kinds := [], alts := [], laidByText := true, laidKinds := [.data, .data, .data], laidTests := true, laidLooks := .later }
def KbestIterateUptoCardSaid : Prop := Claim7.holds Tryd.pinned (.plain (OpenSpec.upto kbestIterateSpec)) kbestIterateUptoCard

/-- THE SECOND FORM's CARD OF 'emendatelaw31.KbestOrder'. -/
def kbestOrderUptoCard : Claim7 := { stood := { row := kbestOrderUptoRow, standIns := [], harness := (true, "e909c2b0b3611a62978d358d09c25825e9c92bb1ee2994ff55226c56a6bce665"), looks := false }, kinds := [], alts := [], laidByText := true, laidKinds := [.data, .data, .data], laidTests := true, laidLooks := .later }
def KbestOrderUptoCardSaid : Prop := Claim7.holds Tryd.pinned (.plain (OpenSpec.upto kbestOrderSpec)) kbestOrderUptoCard

/-- THE SECOND FORM's CARD OF 'emendatelaw31.KbestComplete'. -/
def kbestCompleteUptoCard : Claim7 := { stood := { row := kbestCompleteUptoRow, standIns := [], harness := (true, "e909c2b0b3611a62978d358d09c25825e9c92bb1ee2994ff55226c56a6bce665"), looks := false }, kinds := [], alts := [], laidByText := true, laidKinds := [.data, .data, .data], laidTests := true, laidLooks := .later }
def KbestCompleteUptoCardSaid : Prop := Claim7.holds Tryd.pinned (.plain (OpenSpec.upto kbestCompleteSpec)) kbestCompleteUptoCard

/-- THE SECOND FORM's CARD OF 'emendatelaw31.KbestBest'. -/
def kbestBestUptoCard : Claim7 := { stood := { row := kbestBestUptoRow, standIns := [], harness := (true, "e909c2b0b3611a62978d358d09c25825e9c92bb1ee2994ff55226c56a6bce665"), looks := false }, kinds := [], alts := [], laidByText := true, laidKinds := [.data, .data, .data], laidTests := true, laidLooks := .later }
def KbestBestUptoCardSaid : Prop := Claim7.holds Tryd.pinned (.plain (OpenSpec.upto kbestBestSpec)) kbestBestUptoCard

/-- THE SECOND FORM's CARD OF 'emendatelaw31.KbestPrefix'. -/
def kbestPrefixUptoCard : Claim7 := { stood := { row := kbestPrefixUptoRow, standIns := [], harness := (true, "e909c2b0b3611a62978d358d09c25825e9c92bb1ee2994ff55226c56a6bce665"), looks := false }, kinds := [], alts := [], laidByText := true, laidKinds := [.data, .data, .data], laidTests := true, laidLooks := .later }
def KbestPrefixUptoCardSaid : Prop := Claim7.holds Tryd.pinned (.plain (OpenSpec.upto kbestPrefixSpec)) kbestPrefixUptoCard

/-- THE SECOND FORM's CARD OF 'emendatelaw31.KbestEdges'. -/
def kbestEdgesUptoCard : Claim7 := { stood := { row := kbestEdgesUptoRow, standIns := [], harness := (true, "e909c2b0b3611a62978d358d09c25825e9c92bb1ee2994ff55226c56a6bce665"), looks := false }, kinds := [], alts := [], laidByText := true, laidKinds := [.data, .data, .data], laidTests := true, laidLooks := .later }
def KbestEdgesUptoCardSaid : Prop := Claim7.holds Tryd.pinned (.plain (OpenSpec.upto kbestEdgesSpec)) kbestEdgesUptoCard
end Rows
end Go.Proofs.YtajbmdjlfniofaaDoor
