/-
  DERIVED. GIVEN WITH THE SEED: THE CARDS: each row of YtddfkkdanpmnaaaGreatDoorRows.lean that lists a variable, with what it lists TIED to the program's text (the seventh form; the later family's looks); each row that meets fmt, with fmt's text TOLD by the authors' own Lean function (tested against real Go, not proved from fmt's source: count such statements apart). THE CARD IS WHAT COUNTS. Prove the row's statement (the work); the ties are given (YtddfkkdanpmnaaaGreatDoorTie.lean); close each card by the builder's one call (the guide's Derived/Test/ToyasCard.lean, 'card_holds'). Laid BY PROGRAM, IN A SANDBOX (cutbox-door.mjs). By AI agents, Wed Nov 11 2026. No macro, syntax, notation, axiom, sorry.
-/
import Derived.Test.YtddfkkdanpmnaaaGreatDoorRows
import GoSem.ClaimSeven
namespace Go.Proofs.YtddfkkdanpmnaaaGreatDoor
namespace Rows

/-- THE TIED CARD OF 'dialtonelaw11.LogbookProofsMatchReference'. -/
def logbookProofsMatchReferenceCard : Claim7 := { stood := { row := logbookProofsMatchReferenceRow, standIns := [], harness := (true, "75f568a6001c5327f169e17ee53613273f3a14fc9efb82e01c0141136abbef54"), looks := true }, kinds := [], alts := [], laidByText := true, laidKinds := [.data], laidTests := true, laidLooks := .later }
def LogbookProofsMatchReferenceCardSaid : Prop := Claim7.holds Tryz.pinned (.plain (OpenSpec.ofChange logbookProofsMatchReferenceSpec)) logbookProofsMatchReferenceCard

/-- THE TIED CARD OF 'dialtonelaw11.LogbookGrows'. -/
def logbookGrowsCard : Claim7 := { stood := { row := logbookGrowsRow, standIns := [], harness := (true, "75f568a6001c5327f169e17ee53613273f3a14fc9efb82e01c0141136abbef54"), looks := true }, kinds := [], alts := [], laidByText := true, laidKinds := [.data], laidTests := true, laidLooks := .later }
def LogbookGrowsCardSaid : Prop := Claim7.holds Tryz.pinned (.plain (OpenSpec.ofChange logbookGrowsSpec)) logbookGrowsCard

/-- THE SECOND FORM's CARD OF 'dialtonelaw11.LogbookProofsMatchReference'. -/
def logbookProofsMatchReferenceUptoCard : Claim7 := { stood := { row := logbookProofsMatchReferenceUptoRow, standIns := [], harness := (true, "75f568a6001c5327f169e17ee53613273f3a14fc9efb82e01c0141136abbef54"), looks := true }, kinds := [], alts := [], laidByText := true, laidKinds := [.data], laidTests := true, laidLooks := .later }
def LogbookProofsMatchReferenceUptoCardSaid : Prop := Claim7.holds Tryz.pinned (.plain (OpenSpec.upto logbookProofsMatchReferenceSpec)) logbookProofsMatchReferenceUptoCard

/-- THE SECOND FORM's CARD OF 'dialtonelaw11.LogbookGrows'. -/
def logbookGrowsUptoCard : Claim7 := { stood := { row := logbookGrowsUptoRow, standIns := [], harness := (true, "75f568a6001c5327f169e17ee53613273f3a14fc9efb82e01c0141136abbef54"), looks := true }, kinds := [], alts := [], laidByText := true, laidKinds := [.data], laidTests := true, laidLooks := .later }
def LogbookGrowsUptoCardSaid : Prop := Claim7.holds Tryz.pinned (.plain (OpenSpec.upto logbookGrowsSpec)) logbookGrowsUptoCard
end Rows
end Go.Proofs.YtddfkkdanpmnaaaGreatDoor
