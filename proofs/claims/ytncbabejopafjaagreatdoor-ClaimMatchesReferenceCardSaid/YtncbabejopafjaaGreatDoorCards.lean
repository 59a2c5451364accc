/-
  DERIVED. GIVEN WITH THE SEED: THE CARDS: each row of YtncbabejopafjaaGreatDoorRows.lean that lists a variable, with what it lists TIED to the program's text (the seventh form; the later family's looks); each row that meets fmt, with fmt's text TOLD by the authors' own Lean function (tested against real Go, not proved from fmt's source: count such statements apart). THE CARD IS WHAT COUNTS. Prove the row's statement (the work); the ties are given (YtncbabejopafjaaGreatDoorTie.lean); close each card by the builder's one call (the guide's Derived/Test/ToyasCard.lean, 'card_holds'). Laid BY PROGRAM, IN A SANDBOX (cutbox-door.mjs). By AI agents, Wed Nov 11 2026. No macro, syntax, notation, axiom, sorry.
-/
import Derived.Test.YtncbabejopafjaaGreatDoorRows
import GoSem.ClaimSeven
namespace Go.Proofs.YtncbabejopafjaaGreatDoor
namespace Rows

/-- THE TIED CARD OF 'dialtonelaw16.ClaimMatchesReference'. -/
def claimMatchesReferenceCard : Claim7 := { stood := { row := claimMatchesReferenceRow, standIns := [], harness := (true, "4bc4e2d04f492f2ac5808712b1e7099174b60be07f15aa8502f7b9813a94b930"), looks := false }, kinds := [], alts := [], laidByText := true, laidKinds := [.data], laidTests := true, laidLooks := .later }
def ClaimMatchesReferenceCardSaid : Prop := Claim7.holds Tryz.pinned (.plain (OpenSpec.ofChange claimMatchesReferenceSpec)) claimMatchesReferenceCard

/-- THE SECOND FORM's CARD OF 'dialtonelaw16.ClaimMatchesReference'. -/
def claimMatchesReferenceUptoCard : Claim7 := { stood := { row := claimMatchesReferenceUptoRow, standIns := [], harness := (true, "4bc4e2d04f492f2ac5808712b1e7099174b60be07f15aa8502f7b9813a94b930"), looks := false }, kinds := [], alts := [], laidByText := true, laidKinds := [.data], laidTests := true, laidLooks := .later }
def ClaimMatchesReferenceUptoCardSaid : Prop := Claim7.holds Tryz.pinned (.plain (OpenSpec.upto claimMatchesReferenceSpec)) claimMatchesReferenceUptoCard
end Rows
end Go.Proofs.YtncbabejopafjaaGreatDoor
