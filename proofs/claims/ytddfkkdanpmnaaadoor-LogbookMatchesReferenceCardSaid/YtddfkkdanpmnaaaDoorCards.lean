/-
  DERIVED. GIVEN WITH THE SEED: THE CARDS: each row of YtddfkkdanpmnaaaDoorRows.lean that lists a variable, with what it lists TIED to the program's text (the seventh form; the later family's looks); each row that meets fmt, with fmt's text TOLD by the authors' own Lean function (tested against real Go, not proved from fmt's source: count such statements apart). THE CARD IS WHAT COUNTS. Prove the row's statement (the work); the ties are given (YtddfkkdanpmnaaaDoorTie.lean); close each card by the builder's one call (the guide's Derived/Test/ToyasCard.lean, 'card_holds'). Laid BY PROGRAM, IN A SANDBOX (cutbox-door.mjs). By AI agents, Wed Nov 11 2026. No macro, syntax, notation, axiom, sorry.
-/
import Derived.Test.YtddfkkdanpmnaaaDoorRows
import GoSem.ClaimSeven
namespace Go.Proofs.YtddfkkdanpmnaaaDoor
namespace Rows

/-- THE TIED CARD OF 'dialtonelaw11.LogbookMatchesReference'. -/
def logbookMatchesReferenceCard : Claim7 := { stood := { row := logbookMatchesReferenceRow, standIns := [], harness := (true, "e86014bec416e86e44142f0c2f0301c1e4cb23957ccb8f742fb8032f12d1d8bb"), looks := true }, kinds := [], alts := [], laidByText := true, laidKinds := [.data], laidTests := true, laidLooks := .later }
def LogbookMatchesReferenceCardSaid : Prop := Claim7.holds Tryd.pinned (.plain (OpenSpec.ofChange logbookMatchesReferenceSpec)) logbookMatchesReferenceCard

/-- THE TIED CARD OF 'dialtonelaw11.LogbookStays'. -/
def logbookStaysCard : Claim7 := { stood := { row := logbookStaysRow, standIns := [], harness := (true, "e86014bec416e86e44142f0c2f0301c1e4cb23957ccb8f742fb8032f12d1d8bb"), looks := true }, kinds := [], alts := [], laidByText := true, laidKinds := [.data], laidTests := true, laidLooks := .later }
def LogbookStaysCardSaid : Prop := Claim7.holds Tryd.pinned (.plain (OpenSpec.ofChange logbookStaysSpec)) logbookStaysCard

/-- THE TIED CARD OF 'dialtonelaw11.LogbookFinds'. -/
def logbookFindsCard : Claim7 := { stood := { row := logbookFindsRow, standIns := [], harness := (true, "e86014bec416e86e44142f0c2f0301c1e4cb23957ccb8f742fb8032f12d1d8bb"), looks := true }, kinds := [], alts := [], laidByText := true, laidKinds := [.data], laidTests := true, laidLooks := .later }
def LogbookFindsCardSaid : Prop := Claim7.holds Tryd.pinned (.plain (OpenSpec.ofChange logbookFindsSpec)) logbookFindsCard

/-- THE TIED CARD OF 'dialtonelaw11.LogbookProved'. -/
def logbookProvedCard : Claim7 := { stood := { row := logbookProvedRow, standIns := [], harness := (true, "e86014bec416e86e44142f0c2f0301c1e4cb23957ccb8f742fb8032f12d1d8bb"), looks := true }, kinds := [], alts := [], laidByText := true, laidKinds := [.data], laidTests := true, laidLooks := .later }
def LogbookProvedCardSaid : Prop := Claim7.holds Tryd.pinned (.plain (OpenSpec.ofChange logbookProvedSpec)) logbookProvedCard

/-- THE TIED CARD OF 'dialtonelaw11.LogbookSigned'. -/
def logbookSignedCard : Claim7 := { stood := { row := logbookSignedRow, standIns := [], harness := (true, "e86014bec416e86e44142f0c2f0301c1e4cb23957ccb8f742fb8032f12d1d8bb"), looks := true }, kinds := [], alts := [], laidByText := true, laidKinds := [.data], laidTests := true, laidLooks := .later }
def LogbookSignedCardSaid : Prop := Claim7.holds Tryd.pinned (.plain (OpenSpec.ofChange logbookSignedSpec)) logbookSignedCard

/-- THE TIED CARD OF 'dialtonelaw11.LogbookDecodes'. -/
def logbookDecodesCard : Claim7 := { stood := { row := logbookDecodesRow, standIns := [], harness := (true, "e86014bec416e86e44142f0c2f0301c1e4cb23957ccb8f742fb8032f12d1d8bb"), looks := true }, kinds := [], alts := [], laidByText := true, laidKinds := [.data], laidTests := true, laidLooks := .later }
def LogbookDecodesCardSaid : Prop := Claim7.holds Tryd.pinned (.plain (OpenSpec.ofChange logbookDecodesSpec)) logbookDecodesCard

/-- THE SECOND FORM's CARD OF 'dialtonelaw11.LogbookMatchesReference'. -/
def logbookMatchesReferenceUptoCard : Claim7 := { stood := { row := logbookMatchesReferenceUptoRow, standIns := [], harness := (true, "e86014bec416e86e44142f0c2f0301c1e4cb23957ccb8f742fb8032f12d1d8bb"), looks := true }, kinds := [], alts := [], laidByText := true, laidKinds := [.data], laidTests := true, laidLooks := .later }
def LogbookMatchesReferenceUptoCardSaid : Prop := Claim7.holds Tryd.pinned (.plain (OpenSpec.upto logbookMatchesReferenceSpec)) logbookMatchesReferenceUptoCard

/-- THE SECOND FORM's CARD OF 'dialtonelaw11.LogbookStays'. -/
def logbookStaysUptoCard : Claim7 := { stood := { row := logbookStaysUptoRow, standIns := [], harness := (true, "e86014bec416e86e44142f0c2f0301c1e4cb23957ccb8f742fb8032f12d1d8bb"), looks := true }, kinds := [], alts := [], laidByText := true, laidKinds := [.data], laidTests := true, laidLooks := .later }
def LogbookStaysUptoCardSaid : Prop := Claim7.holds Tryd.pinned (.plain (OpenSpec.upto logbookStaysSpec)) logbookStaysUptoCard

/-- THE SECOND FORM's CARD OF 'dialtonelaw11.LogbookFinds'. -/
def logbookFindsUptoCard : Claim7 := { stood := { row := logbookFindsUptoRow, standIns := [], harness := (true, "e86014bec416e86e44142f0c2f0301c1e4cb23957ccb8f742fb8032f12d1d8bb"), looks := true }, kinds := [], alts := [], laidByText := true, laidKinds := [.data], laidTests := true, laidLooks := .later }
def LogbookFindsUptoCardSaid : Prop := Claim7.holds Tryd.pinned (.plain (OpenSpec.upto logbookFindsSpec)) logbookFindsUptoCard

/-- THE SECOND FORM's CARD OF 'dialtonelaw11.LogbookProved'. -/
def logbookProvedUptoCard : Claim7 := { stood := { row := logbookProvedUptoRow, standIns := [], harness := (true, "e86014bec416e86e44142f0c2f0301c1e4cb23957ccb8f742fb8032f12d1d8bb"), looks := true }, kinds := [], alts := [], laidByText := true, laidKinds := [.data], laidTests := true, laidLooks := .later }
def LogbookProvedUptoCardSaid : Prop := Claim7.holds Tryd.pinned (.plain (OpenSpec.upto logbookProvedSpec)) logbookProvedUptoCard

/-- THE SECOND FORM's CARD OF 'dialtonelaw11.LogbookSigned'. -/
def logbookSignedUptoCard : Claim7 := { stood := { row := logbookSignedUptoRow, standIns := [], harness := (true, "e86014bec416e86e44142f0c2f0301c1e4cb23957ccb8f742fb8032f12d1d8bb"), looks := true }, kinds := [], alts := [], laidByText := true, laidKinds := [.data], laidTests := true, laidLooks := .later }
def LogbookSignedUptoCardSaid : Prop := Claim7.holds Tryd.pinned (.plain (OpenSpec.upto logbookSignedSpec)) logbookSignedUptoCard

/-- THE SECOND FORM's CARD OF 'dialtonelaw11.LogbookDecodes'. -/
def logbookDecodesUptoCard : Claim7 := { stood := { row := logbookDecodesUptoRow, standIns := [], harness := (true, "e86014bec416e86e44142f0c2f0301c1e4cb23957ccb8f742fb8032f12d1d8bb"), looks := true }, kinds := [], alts := [], laidByText := true, laidKinds := [.data], laidTests := true, laidLooks := .later }
def LogbookDecodesUptoCardSaid : Prop := Claim7.holds Tryd.pinned (.plain (OpenSpec.upto logbookDecodesSpec)) logbookDecodesUptoCard
end Rows
end Go.Proofs.YtddfkkdanpmnaaaDoor
