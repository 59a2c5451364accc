/-
  DERIVED. GIVEN WITH THE SEED: THE CARDS: each row of YtmmfieceinmloaaGreatDoorRows.lean that lists a variable, with what it lists TIED to the program's text (the seventh form; the later family's looks); each row that meets fmt, with fmt's text TOLD by the authors' own Lean function (tested against real Go, not proved from fmt's source: count such statements apart). THE CARD IS WHAT COUNTS. Prove the row's statement (the work); the ties are given (YtmmfieceinmloaaGreatDoorTie.lean); close each card by the builder's one call (the guide's Derived/Test/ToyasCard.lean, 'card_holds'). Laid BY PROGRAM, IN A SANDBOX (cutbox-door.mjs). By AI agents, Wed Nov 11 2026. No macro, syntax, notation, axiom, sorry.
-/
import Derived.Test.YtmmfieceinmloaaGreatDoorRows
import GoSem.ClaimSeven
namespace Go.Proofs.YtmmfieceinmloaaGreatDoor
namespace Rows

/-- THE TIED CARD OF 'dialtonelaw15.WishMatchesReference'. -/
def wishMatchesReferenceCard : Claim7 := { stood := { row := wishMatchesReferenceRow, standIns := [], harness := (true, "11cd15a4715980fc47b315688bd8279080543252691b0ab14bee190d00c8dbc3"), looks := true }, kinds := [], alts := [], laidByText := true, laidKinds := [.data], laidTests := true, laidLooks := .later }
def WishMatchesReferenceCardSaid : Prop := Claim7.holds Tryz.pinned (.plain (OpenSpec.ofChange wishMatchesReferenceSpec)) wishMatchesReferenceCard

/-- THE TIED CARD OF 'dialtonelaw15.WishTextsMatchReference'. -/
def wishTextsMatchReferenceCard : Claim7 := { stood := { row := wishTextsMatchReferenceRow, standIns := [], harness := (true, "11cd15a4715980fc47b315688bd8279080543252691b0ab14bee190d00c8dbc3"), looks := true }, kinds := [], alts := [], laidByText := true, laidKinds := [.data], laidTests := true, laidLooks := .later }
def WishTextsMatchReferenceCardSaid : Prop := Claim7.holds Tryz.pinned (.plain (OpenSpec.ofChange wishTextsMatchReferenceSpec)) wishTextsMatchReferenceCard

/-- THE TIED CARD OF 'dialtonelaw15.WishBinds'. -/
def wishBindsCard : Claim7 := { stood := { row := wishBindsRow, standIns := [], harness := (true, "11cd15a4715980fc47b315688bd8279080543252691b0ab14bee190d00c8dbc3"), looks := true }, kinds := [], alts := [], laidByText := true, laidKinds := [.data], laidTests := true, laidLooks := .later }
def WishBindsCardSaid : Prop := Claim7.holds Tryz.pinned (.plain (OpenSpec.ofChange wishBindsSpec)) wishBindsCard

/-- THE TIED CARD OF 'dialtonelaw16.ClaimMatchesReference'. -/
def claimMatchesReferenceCard : Claim7 := { stood := { row := claimMatchesReferenceRow, standIns := [], harness := (true, "11cd15a4715980fc47b315688bd8279080543252691b0ab14bee190d00c8dbc3"), looks := true }, kinds := [], alts := [], laidByText := true, laidKinds := [.data], laidTests := true, laidLooks := .later }
def ClaimMatchesReferenceCardSaid : Prop := Claim7.holds Tryz.pinned (.plain (OpenSpec.ofChange claimMatchesReferenceSpec)) claimMatchesReferenceCard

/-- THE TIED CARD OF 'dialtonelaw16.ClaimWishes'. -/
def claimWishesCard : Claim7 := { stood := { row := claimWishesRow, standIns := [], harness := (true, "11cd15a4715980fc47b315688bd8279080543252691b0ab14bee190d00c8dbc3"), looks := true }, kinds := [], alts := [], laidByText := true, laidKinds := [.data], laidTests := true, laidLooks := .later }
def ClaimWishesCardSaid : Prop := Claim7.holds Tryz.pinned (.plain (OpenSpec.ofChange claimWishesSpec)) claimWishesCard

/-- THE SECOND FORM's CARD OF 'dialtonelaw15.WishMatchesReference'. -/
def wishMatchesReferenceUptoCard : Claim7 := { stood := { row := wishMatchesReferenceUptoRow, standIns := [], harness := (true, "11cd15a4715980fc47b315688bd8279080543252691b0ab14bee190d00c8dbc3"), looks := true }, kinds := [], alts := [], laidByText := true, laidKinds := [.data], laidTests := true, laidLooks := .later }
def WishMatchesReferenceUptoCardSaid : Prop := Claim7.holds Tryz.pinned (.plain (OpenSpec.upto wishMatchesReferenceSpec)) wishMatchesReferenceUptoCard

/-- THE SECOND FORM's CARD OF 'dialtonelaw15.WishTextsMatchReference'. -/
def wishTextsMatchReferenceUptoCard : Claim7 := { stood := { row := wishTextsMatchReferenceUptoRow, standIns := [], harness := (true, "11cd15a4715980fc47b315688bd8279080543252691b0ab14bee190d00c8dbc3"), looks := true }, kinds := [], alts := [], laidByText := true, laidKinds := [.data], laidTests := true, laidLooks := .later }
def WishTextsMatchReferenceUptoCardSaid : Prop := Claim7.holds Tryz.pinned (.plain (OpenSpec.upto wishTextsMatchReferenceSpec)) wishTextsMatchReferenceUptoCard

/-- THE SECOND FORM's CARD OF 'dialtonelaw15.WishBinds'. -/
def wishBindsUptoCard : Claim7 := { stood := { row := wishBindsUptoRow, standIns := [], harness := (true, "11cd15a4715980fc47b315688bd8279080543252691b0ab14bee190d00c8dbc3"), looks := true }, kinds := [], alts := [], laidByText := true, laidKinds := [.data], laidTests := true, laidLooks := .later }
def WishBindsUptoCardSaid : Prop := Claim7.holds Tryz.pinned (.plain (OpenSpec.upto wishBindsSpec)) wishBindsUptoCard

/-- THE SECOND FORM's CARD OF 'dialtonelaw16.ClaimMatchesReference'. -/
def claimMatchesReferenceUptoCard : Claim7 := { stood := { row := claimMatchesReferenceUptoRow, standIns := [], harness := (true, "11cd15a4715980fc47b315688bd8279080543252691b0ab14bee190d00c8dbc3"), looks := true }, kinds := [], alts := [], laidByText := true, laidKinds := [.data], laidTests := true, laidLooks := .later }
def ClaimMatchesReferenceUptoCardSaid : Prop := Claim7.holds Tryz.pinned (.plain (OpenSpec.upto claimMatchesReferenceSpec)) claimMatchesReferenceUptoCard

/-- THE SECOND FORM's CARD OF 'dialtonelaw16.ClaimWishes'. -/
def claimWishesUptoCard : Claim7 := { stood := { row := claimWishesUptoRow, standIns := [], harness := (true, "11cd15a4715980fc47b315688bd8279080543252691b0ab14bee190d00c8dbc3"), looks := true }, kinds := [], alts := [], laidByText := true, laidKinds := [.data], laidTests := true, laidLooks := .later }
def ClaimWishesUptoCardSaid : Prop := Claim7.holds Tryz.pinned (.plain (OpenSpec.upto claimWishesSpec)) claimWishesUptoCard
end Rows
end Go.Proofs.YtmmfieceinmloaaGreatDoor
