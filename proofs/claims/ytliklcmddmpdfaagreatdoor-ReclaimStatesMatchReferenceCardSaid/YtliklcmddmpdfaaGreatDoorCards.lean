/-
  DERIVED. GIVEN WITH THE SEED: THE CARDS: each row of YtliklcmddmpdfaaGreatDoorRows.lean that lists a variable, with what it lists TIED to the program's text (the seventh form; the later family's looks); each row that meets fmt, with fmt's text TOLD by the authors' own Lean function (tested against real Go, not proved from fmt's source: count such statements apart). THE CARD IS WHAT COUNTS. Prove the row's statement (the work); the ties are given (YtliklcmddmpdfaaGreatDoorTie.lean); close each card by the builder's one call (the guide's Derived/Test/ToyasCard.lean, 'card_holds'). Laid BY PROGRAM, IN A SANDBOX (cutbox-door.mjs). By AI agents, Wed Nov 11 2026. No macro, syntax, notation, axiom, sorry.
-/
import Derived.Test.YtliklcmddmpdfaaGreatDoorRows
import GoSem.ClaimSeven
namespace Go.Proofs.YtliklcmddmpdfaaGreatDoor
namespace Rows

/-- THE TIED CARD OF 'dialtonelaw21.ReclaimTimes'. -/
def reclaimTimesCard : Claim7 := { stood := { row := reclaimTimesRow, standIns := [], harness := (true, "27981ab64eb9de352beae3c4b2d2aa910d1f3389e39b42d6aa04458961feac09"), looks := true }, kinds := [], alts := [], laidByText := true, laidKinds := [.data], laidTests := true, laidLooks := .later }
def ReclaimTimesCardSaid : Prop := Claim7.holds Tryz.pinned (.plain (OpenSpec.ofChange reclaimTimesSpec)) reclaimTimesCard

/-- THE TIED CARD OF 'dialtonelaw21.ReclaimReads'. -/
def reclaimReadsCard : Claim7 := { stood := { row := reclaimReadsRow, standIns := [], harness := (true, "27981ab64eb9de352beae3c4b2d2aa910d1f3389e39b42d6aa04458961feac09"), looks := true }, kinds := [], alts := [], laidByText := true, laidKinds := [.data], laidTests := true, laidLooks := .later }
def ReclaimReadsCardSaid : Prop := Claim7.holds Tryz.pinned (.plain (OpenSpec.ofChange reclaimReadsSpec)) reclaimReadsCard

/-- THE TIED CARD OF 'dialtonelaw21.ReclaimStatesMatchReference'. -/
def reclaimStatesMatchReferenceCard : Claim7 := { stood := { row := reclaimStatesMatchReferenceRow, standIns := [], harness := (true, "27981ab64eb9de352beae3c4b2d2aa910d1f3389e39b42d6aa04458961feac09"), looks := true }, kinds := [], alts := [], laidByText := true, laidKinds := [.data], laidTests := true, laidLooks := .later }
def ReclaimStatesMatchReferenceCardSaid : Prop := Claim7.holds Tryz.pinned (.plain (OpenSpec.ofChange reclaimStatesMatchReferenceSpec)) reclaimStatesMatchReferenceCard

/-- THE TIED CARD OF 'dialtonelaw21.ReclaimOne'. -/
def reclaimOneCard : Claim7 := { stood := { row := reclaimOneRow, standIns := [], harness := (true, "27981ab64eb9de352beae3c4b2d2aa910d1f3389e39b42d6aa04458961feac09"), looks := true }, kinds := [], alts := [], laidByText := true, laidKinds := [.data], laidTests := true, laidLooks := .later }
def ReclaimOneCardSaid : Prop := Claim7.holds Tryz.pinned (.plain (OpenSpec.ofChange reclaimOneSpec)) reclaimOneCard

/-- THE TIED CARD OF 'dialtonelaw21.ReclaimNever'. -/
def reclaimNeverCard : Claim7 := { stood := { row := reclaimNeverRow, standIns := [], harness := (true, "27981ab64eb9de352beae3c4b2d2aa910d1f3389e39b42d6aa04458961feac09"), looks := true }, kinds := [], alts := [], laidByText := true, laidKinds := [.data], laidTests := true, laidLooks := .later }
def ReclaimNeverCardSaid : Prop := Claim7.holds Tryz.pinned (.plain (OpenSpec.ofChange reclaimNeverSpec)) reclaimNeverCard

/-- THE TIED CARD OF 'dialtonelaw21.ReclaimReturns'. -/
def reclaimReturnsCard : Claim7 := { stood := { row := reclaimReturnsRow, standIns := [], harness := (true, "27981ab64eb9de352beae3c4b2d2aa910d1f3389e39b42d6aa04458961feac09"), looks := true }, kinds := [], alts := [], laidByText := true, laidKinds := [.data], laidTests := true, laidLooks := .later }
def ReclaimReturnsCardSaid : Prop := Claim7.holds Tryz.pinned (.plain (OpenSpec.ofChange reclaimReturnsSpec)) reclaimReturnsCard

/-- THE TIED CARD OF 'dialtonelaw21.ReclaimKeeps'. -/
def reclaimKeepsCard : Claim7 := { stood := { row := reclaimKeepsRow, standIns := [], harness := (true, "27981ab64eb9de352beae3c4b2d2aa910d1f3389e39b42d6aa04458961feac09"), looks := true }, kinds := [], alts := [], laidByText := true, laidKinds := [.data], laidTests := true, laidLooks := .later }
def ReclaimKeepsCardSaid : Prop := Claim7.holds Tryz.pinned (.plain (OpenSpec.ofChange reclaimKeepsSpec)) reclaimKeepsCard

/-- THE TIED CARD OF 'dialtonelaw21.ReclaimOwn'. -/
def reclaimOwnCard : Claim7 := { stood := { row := reclaimOwnRow, standIns := [], harness := (true, "27981ab64eb9de352beae3c4b2d2aa910d1f3389e39b42d6aa04458961feac09"), looks := true }, kinds := [], alts := [], laidByText := true, laidKinds := [.data], laidTests := true, laidLooks := .later }
def ReclaimOwnCardSaid : Prop := Claim7.holds Tryz.pinned (.plain (OpenSpec.ofChange reclaimOwnSpec)) reclaimOwnCard

/-- THE SECOND FORM's CARD OF 'dialtonelaw21.ReclaimTimes'. -/
def reclaimTimesUptoCard : Claim7 := { stood := { row := reclaimTimesUptoRow, standIns := [], harness := (true, "27981ab64eb9de352beae3c4b2d2aa910d1f3389e39b42d6aa04458961feac09"), looks := true }, kinds := [], alts := [], laidByText := true, laidKinds := [.data], laidTests := true, laidLooks := .later }
def ReclaimTimesUptoCardSaid : Prop := Claim7.holds Tryz.pinned (.plain (OpenSpec.upto reclaimTimesSpec)) reclaimTimesUptoCard

/-- THE SECOND FORM's CARD OF 'dialtonelaw21.ReclaimReads'. -/
def reclaimReadsUptoCard : Claim7 := { stood := { row := reclaimReadsUptoRow, standIns := [], harness := (true, "27981ab64eb9de352beae3c4b2d2aa910d1f3389e39b42d6aa04458961feac09"), looks := true }, kinds := [], alts := [], laidByText := true, laidKinds := [.data], laidTests := true, laidLooks := .later }
def ReclaimReadsUptoCardSaid : Prop := Claim7.holds Tryz.pinned (.plain (OpenSpec.upto reclaimReadsSpec)) reclaimReadsUptoCard

/-- THE SECOND FORM's CARD OF 'dialtonelaw21.ReclaimStatesMatchReference'. -/
def reclaimStatesMatchReferenceUptoCard : Claim7 := { stood := { row := reclaimStatesMatchReferenceUptoRow, standIns := [], harness := (true, "27981ab64eb9de352beae3c4b2d2aa910d1f3389e39b42d6aa04458961feac09"), looks := true }, kinds := [], alts := [], laidByText := true, laidKinds := [.data], laidTests := true, laidLooks := .later }
def ReclaimStatesMatchReferenceUptoCardSaid : Prop := Claim7.holds Tryz.pinned (.plain (OpenSpec.upto reclaimStatesMatchReferenceSpec)) reclaimStatesMatchReferenceUptoCard

/-- THE SECOND FORM's CARD OF 'dialtonelaw21.ReclaimOne'. -/
def reclaimOneUptoCard : Claim7 := { stood := { row := reclaimOneUptoRow, standIns := [], harness := (true, "27981ab64eb9de352beae3c4b2d2aa910d1f3389e39b42d6aa04458961feac09"), looks := true }, kinds := [], alts := [], laidByText := true, laidKinds := [.data], laidTests := true, laidLooks := .later }
def ReclaimOneUptoCardSaid : Prop := Claim7.holds Tryz.pinned (.plain (OpenSpec.upto reclaimOneSpec)) reclaimOneUptoCard

/-- THE SECOND FORM's CARD OF 'dialtonelaw21.ReclaimNever'. -/
def reclaimNeverUptoCard : Claim7 := { stood := { row := reclaimNeverUptoRow, standIns := [], harness := (true, "27981ab64eb9de352beae3c4b2d2aa910d1f3389e39b42d6aa04458961feac09"), looks := true }, kinds := [], alts := [], laidByText := true, laidKinds := [.data], laidTests := true, laidLooks := .later }
def ReclaimNeverUptoCardSaid : Prop := Claim7.holds Tryz.pinned (.plain (OpenSpec.upto reclaimNeverSpec)) reclaimNeverUptoCard

/-- THE SECOND FORM's CARD OF 'dialtonelaw21.ReclaimReturns'. -/
def reclaimReturnsUptoCard : Claim7 := { stood := { row := reclaimReturnsUptoRow, standIns := [], harness := (true, "27981ab64eb9de352beae3c4b2d2aa910d1f3389e39b42d6aa04458961feac09"), looks := true }, kinds := [], alts := [], laidByText := true, laidKinds := [.data], laidTests := true, laidLooks := .later }
def ReclaimReturnsUptoCardSaid : Prop := Claim7.holds Tryz.pinned (.plain (OpenSpec.upto reclaimReturnsSpec)) reclaimReturnsUptoCard

/-- THE SECOND FORM's CARD OF 'dialtonelaw21.ReclaimKeeps'. -/
def reclaimKeepsUptoCard : Claim7 := { stood := { row := reclaimKeepsUptoRow, standIns := [], harness := (true, "27981ab64eb9de352beae3c4b2d2aa910d1f3389e39b42d6aa04458961feac09"), looks := true }, kinds := [], alts := [], laidByText := true, laidKinds := [.data], laidTests := true, laidLooks := .later }
def ReclaimKeepsUptoCardSaid : Prop := Claim7.holds Tryz.pinned (.plain (OpenSpec.upto reclaimKeepsSpec)) reclaimKeepsUptoCard

/-- THE SECOND FORM's CARD OF 'dialtonelaw21.ReclaimOwn'. -/
def reclaimOwnUptoCard : Claim7 := { stood := { row := reclaimOwnUptoRow, standIns := [], harness := (true, "27981ab64eb9de352beae3c4b2d2aa910d1f3389e39b42d6aa04458961feac09"), looks := true }, kinds := [], alts := [], laidByText := true, laidKinds := [.data], laidTests := true, laidLooks := .later }
def ReclaimOwnUptoCardSaid : Prop := Claim7.holds Tryz.pinned (.plain (OpenSpec.upto reclaimOwnSpec)) reclaimOwnUptoCard
end Rows
end Go.Proofs.YtliklcmddmpdfaaGreatDoor
