/-
  DERIVED. GIVEN WITH THE SEED: THE CARDS: each row of YtmmfieceinmloaaDoorRows.lean that lists a variable, with what it lists TIED to the program's text (the seventh form; the later family's looks); each row that meets fmt, with fmt's text TOLD by the authors' own Lean function (tested against real Go, not proved from fmt's source: count such statements apart). THE CARD IS WHAT COUNTS. Prove the row's statement (the work); the ties are given (YtmmfieceinmloaaDoorTie.lean); close each card by the builder's one call (the guide's Derived/Test/ToyasCard.lean, 'card_holds'). Laid BY PROGRAM, IN A SANDBOX (cutbox-door.mjs). By AI agents, Wed Nov 11 2026. No macro, syntax, notation, axiom, sorry.
-/
import Derived.Test.YtmmfieceinmloaaDoorRows
import GoSem.ClaimSeven
namespace Go.Proofs.YtmmfieceinmloaaDoor
namespace Rows

/-- THE TIED CARD OF 'dialtonelaw15.WishSigned'. -/
def wishSignedCard : Claim7 := { stood := { row := wishSignedRow, standIns := [], harness := (true, "1955aadbdfd000943dcbd3e0cfec305833d08dd00e3708b93b07653100246b85"), looks := true }, kinds := [], alts := [], laidByText := true, laidKinds := [.data], laidTests := true, laidLooks := .later }
def WishSignedCardSaid : Prop := Claim7.holds Tryd.pinned (.plain (OpenSpec.ofChange wishSignedSpec)) wishSignedCard

/-- THE TIED CARD OF 'dialtonelaw15.WishKeys'. -/
def wishKeysCard : Claim7 := { stood := { row := wishKeysRow, standIns := [], harness := (true, "1955aadbdfd000943dcbd3e0cfec305833d08dd00e3708b93b07653100246b85"), looks := true }, kinds := [], alts := [], laidByText := true, laidKinds := [.data], laidTests := true, laidLooks := .later }
def WishKeysCardSaid : Prop := Claim7.holds Tryd.pinned (.plain (OpenSpec.ofChange wishKeysSpec)) wishKeysCard

/-- THE TIED CARD OF 'dialtonelaw15.WishGranted'. -/
def wishGrantedCard : Claim7 := { stood := { row := wishGrantedRow, standIns := [], harness := (true, "1955aadbdfd000943dcbd3e0cfec305833d08dd00e3708b93b07653100246b85"), looks := true }, kinds := [], alts := [], laidByText := true, laidKinds := [.data], laidTests := true, laidLooks := .later }
def WishGrantedCardSaid : Prop := Claim7.holds Tryd.pinned (.plain (OpenSpec.ofChange wishGrantedSpec)) wishGrantedCard

/-- THE TIED CARD OF 'dialtonelaw15.WishChains'. -/
def wishChainsCard : Claim7 := { stood := { row := wishChainsRow, standIns := [], harness := (true, "1955aadbdfd000943dcbd3e0cfec305833d08dd00e3708b93b07653100246b85"), looks := true }, kinds := [], alts := [], laidByText := true, laidKinds := [.data], laidTests := true, laidLooks := .later }
def WishChainsCardSaid : Prop := Claim7.holds Tryd.pinned (.plain (OpenSpec.ofChange wishChainsSpec)) wishChainsCard

/-- THE TIED CARD OF 'dialtonelaw15.WishWhy'. -/
def wishWhyCard : Claim7 := { stood := { row := wishWhyRow, standIns := [], harness := (true, "1955aadbdfd000943dcbd3e0cfec305833d08dd00e3708b93b07653100246b85"), looks := true }, kinds := [], alts := [], laidByText := true, laidKinds := [.data], laidTests := true, laidLooks := .later }
def WishWhyCardSaid : Prop := Claim7.holds Tryd.pinned (.plain (OpenSpec.ofChange wishWhySpec)) wishWhyCard

/-- THE TIED CARD OF 'dialtonelaw15.WishAccounts'. -/
def wishAccountsCard : Claim7 := { stood := { row := wishAccountsRow, standIns := [], harness := (true, "1955aadbdfd000943dcbd3e0cfec305833d08dd00e3708b93b07653100246b85"), looks := true }, kinds := [], alts := [], laidByText := true, laidKinds := [.data], laidTests := true, laidLooks := .later }
def WishAccountsCardSaid : Prop := Claim7.holds Tryd.pinned (.plain (OpenSpec.ofChange wishAccountsSpec)) wishAccountsCard

/-- THE TIED CARD OF 'dialtonelaw15.WishReads'. -/
def wishReadsCard : Claim7 := { stood := { row := wishReadsRow, standIns := [], harness := (true, "1955aadbdfd000943dcbd3e0cfec305833d08dd00e3708b93b07653100246b85"), looks := true }, kinds := [], alts := [], laidByText := true, laidKinds := [.data], laidTests := true, laidLooks := .later }
def WishReadsCardSaid : Prop := Claim7.holds Tryd.pinned (.plain (OpenSpec.ofChange wishReadsSpec)) wishReadsCard

/-- THE SECOND FORM's CARD OF 'dialtonelaw15.WishSigned'. -/
def wishSignedUptoCard : Claim7 := { stood := { row := wishSignedUptoRow, standIns := [], harness := (true, "1955aadbdfd000943dcbd3e0cfec305833d08dd00e3708b93b07653100246b85"), looks := true }, kinds := [], alts := [], laidByText := true, laidKinds := [.data], laidTests := true, laidLooks := .later }
def WishSignedUptoCardSaid : Prop := Claim7.holds Tryd.pinned (.plain (OpenSpec.upto wishSignedSpec)) wishSignedUptoCard

/-- THE SECOND FORM's CARD OF 'dialtonelaw15.WishKeys'. -/
def wishKeysUptoCard : Claim7 := { stood := { row := wishKeysUptoRow, standIns := [], harness := (true, "1955aadbdfd000943dcbd3e0cfec305833d08dd00e3708b93b07653100246b85"), looks := true }, kinds := [], alts := [], laidByText := true, laidKinds := [.data], laidTests := true, laidLooks := .later }
def WishKeysUptoCardSaid : Prop := Claim7.holds Tryd.pinned (.plain (OpenSpec.upto wishKeysSpec)) wishKeysUptoCard

/-- THE SECOND FORM's CARD OF 'dialtonelaw15.WishGranted'. -/
def wishGrantedUptoCard : Claim7 := { stood := { row := wishGrantedUptoRow, standIns := [], harness := (true, "1955aadbdfd000943dcbd3e0cfec305833d08dd00e3708b93b07653100246b85"), looks := true }, kinds := [], alts := [], laidByText := true, laidKinds := [.data], laidTests := true, laidLooks := .later }
def WishGrantedUptoCardSaid : Prop := Claim7.holds Tryd.pinned (.plain (OpenSpec.upto wishGrantedSpec)) wishGrantedUptoCard

/-- THE SECOND FORM's CARD OF 'dialtonelaw15.WishChains'. -/
def wishChainsUptoCard : Claim7 := { stood := { row := wishChainsUptoRow, standIns := [], harness := (true, "1955aadbdfd000943dcbd3e0cfec305833d08dd00e3708b93b07653100246b85"), looks := true }, kinds := [], alts := [], laidByText := true, laidKinds := [.data], laidTests := true, laidLooks := .later }
def WishChainsUptoCardSaid : Prop := Claim7.holds Tryd.pinned (.plain (OpenSpec.upto wishChainsSpec)) wishChainsUptoCard

/-- THE SECOND FORM's CARD OF 'dialtonelaw15.WishWhy'. -/
def wishWhyUptoCard : Claim7 := { stood := { row := wishWhyUptoRow, standIns := [], harness := (true, "1955aadbdfd000943dcbd3e0cfec305833d08dd00e3708b93b07653100246b85"), looks := true }, kinds := [], alts := [], laidByText := true, laidKinds := [.data], laidTests := true, laidLooks := .later }
def WishWhyUptoCardSaid : Prop := Claim7.holds Tryd.pinned (.plain (OpenSpec.upto wishWhySpec)) wishWhyUptoCard

/-- THE SECOND FORM's CARD OF 'dialtonelaw15.WishAccounts'. -/
def wishAccountsUptoCard : Claim7 := { stood := { row := wishAccountsUptoRow, standIns := [], harness := (true, "1955aadbdfd000943dcbd3e0cfec305833d08dd00e3708b93b07653100246b85"), looks := true }, kinds := [], alts := [], laidByText := true, laidKinds := [.data], laidTests := true, laidLooks := .later }
def WishAccountsUptoCardSaid : Prop := Claim7.holds Tryd.pinned (.plain (OpenSpec.upto wishAccountsSpec)) wishAccountsUptoCard

/-- THE SECOND FORM's CARD OF 'dialtonelaw15.WishReads'. -/
def wishReadsUptoCard : Claim7 := { stood := { row := wishReadsUptoRow, standIns := [], harness := (true, "1955aadbdfd000943dcbd3e0cfec305833d08dd00e3708b93b07653100246b85"), looks := true }, kinds := [], alts := [], laidByText := true, laidKinds := [.data], laidTests := true, laidLooks := .later }
def WishReadsUptoCardSaid : Prop := Claim7.holds Tryd.pinned (.plain (OpenSpec.upto wishReadsSpec)) wishReadsUptoCard
end Rows
end Go.Proofs.YtmmfieceinmloaaDoor
