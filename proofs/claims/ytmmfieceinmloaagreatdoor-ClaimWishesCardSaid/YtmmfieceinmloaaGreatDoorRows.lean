/-
  NARROWER THAN 'FOR EVERY INPUT', by the rows' own cells (each row's printed sentence says how): WishMatchesReference: laid · WishTextsMatchReference: laid · WishBinds: laid · ClaimMatchesReference: laid · ClaimWishes: laid.
  DERIVED. THE GIVEN ROWS OF THIS SEAT. 5 by the template 'for every input the law returns true; each argument reads behind the call as it read before'; 0 by the template 'total and deterministic' (their statements: YtmmfieceinmloaaGreatDoorTotals.lean).
  GIVEN WITH THE SEED: the statements are not yours to turn. If you find one false, say at which input.
  Laid BY PROGRAM, IN A SANDBOX (cutbox-rows.mjs): the forced cells as the released guide's own fill.sh prints them over the translation 8613ea1758d0bc68… (all of the seat's roots in one cut). By AI agents, Wed Nov 11 2026. No macro, syntax, notation, axiom, sorry.
-/
import Derived.Test.YtmmfieceinmloaaGreatDoorChecked
import GoSem.Claim
import GoSem.ClaimJoined
import GoSem.ClaimMapViews
import Derived.JoinedTies
import Derived.KernelRfl
namespace Go.Proofs.YtmmfieceinmloaaGreatDoor
/- THE CELL 'sum', in the pinned program and in every row, IS THE sha256 OF THE DUMP (.gsa) THAT YtmmfieceinmloaaGreatDoorProg.lean LOADS. Nothing in Lean hashes anything: it is a label: what it is worth is what the hold of that sum in a sandbox is worth. -/
noncomputable def Tryz.pinned : Pinned := { name := "ytmmfieceinmloaagreatdoor", sum := "8613ea1758d0bc6867b87739671d632ec2f3dd923aedf0e69b3ec47d00a94a03", checked := Tryz.checked }
namespace Rows
def none {H : Type} : Left H := { results := [], args := [] }

/- WHAT THE LISTED PACKAGE-LEVEL VARIABLES READ AS WHEN THE CALL BEGINS. Each datum BY PROGRAM (the guide's laid-datum.mjs) off the statement by which the dump's own 'gosem.cut.vars' lays the variable. In a bare row this is a premise. The card (YtmmfieceinmloaaGreatDoorCards.lean) ties it to the program's text. -/
def laid_dialtone_digest_round {H : Type} : DataW H := .agg [.lit (.int .u32 1116352408), .lit (.int .u32 1899447441), .lit (.int .u32 3049323471), .lit (.int .u32 3921009573), .lit (.int .u32 961987163), .lit (.int .u32 1508970993), .lit (.int .u32 2453635748), .lit (.int .u32 2870763221), .lit (.int .u32 3624381080), .lit (.int .u32 310598401), .lit (.int .u32 607225278), .lit (.int .u32 1426881987), .lit (.int .u32 1925078388), .lit (.int .u32 2162078206), .lit (.int .u32 2614888103), .lit (.int .u32 3248222580), .lit (.int .u32 3835390401), .lit (.int .u32 4022224774), .lit (.int .u32 264347078), .lit (.int .u32 604807628), .lit (.int .u32 770255983), .lit (.int .u32 1249150122), .lit (.int .u32 1555081692), .lit (.int .u32 1996064986), .lit (.int .u32 2554220882), .lit (.int .u32 2821834349), .lit (.int .u32 2952996808), .lit (.int .u32 3210313671), .lit (.int .u32 3336571891), .lit (.int .u32 3584528711), .lit (.int .u32 113926993), .lit (.int .u32 338241895), .lit (.int .u32 666307205), .lit (.int .u32 773529912), .lit (.int .u32 1294757372), .lit (.int .u32 1396182291), .lit (.int .u32 1695183700), .lit (.int .u32 1986661051), .lit (.int .u32 2177026350), .lit (.int .u32 2456956037), .lit (.int .u32 2730485921), .lit (.int .u32 2820302411), .lit (.int .u32 3259730800), .lit (.int .u32 3345764771), .lit (.int .u32 3516065817), .lit (.int .u32 3600352804), .lit (.int .u32 4094571909), .lit (.int .u32 275423344), .lit (.int .u32 430227734), .lit (.int .u32 506948616), .lit (.int .u32 659060556), .lit (.int .u32 883997877), .lit (.int .u32 958139571), .lit (.int .u32 1322822218), .lit (.int .u32 1537002063), .lit (.int .u32 1747873779), .lit (.int .u32 1955562222), .lit (.int .u32 2024104815), .lit (.int .u32 2227730452), .lit (.int .u32 2361852424), .lit (.int .u32 2428436474), .lit (.int .u32 2756734187), .lit (.int .u32 3204031479), .lit (.int .u32 3329325298)]

/-- 'dialtonelaw15.WishMatchesReference': WHATEVER THE INPUT: true; the input reads as it did. -/
def wishMatchesReferenceSpec : ChangeSpec := { name := "wishMatchesReference", fn := fun _ => fun
  | [d1, d2, d3, d4, d5, d6, d7, d8, d9] => { results := [.lit (.bool true)], args := [d1, d2, d3, d4, d5, d6, d7, d8, d9] }
  | _ => none }
def wishMatchesReferenceRow : OpenClaim := { program := "ytmmfieceinmloaagreatdoor", sum := "8613ea1758d0bc6867b87739671d632ec2f3dd923aedf0e69b3ec47d00a94a03", func := "dialtone/dialtonelaw15.WishMatchesReference", spec := "wishMatchesReference", inPlace := ["internal/abi.NoEscape", "internal/bytealg.MakeNoZero"], unfollowed := true, recurses := true, named := ["dialtone/digest.round"], plainKeys := false, apart := false, laid := [("dialtone/digest.round", laid_dialtone_digest_round)] }
def WishMatchesReferenceSaid : Prop := wishMatchesReferenceRow.holds Tryz.pinned (OpenSpec.ofChange wishMatchesReferenceSpec)

/-- ITS FALSE NEIGHBOUR: 'it returns false'. Refute it at one input. -/
def wishMatchesReferenceWrong : ChangeSpec := { name := "wishMatchesReference", fn := fun _ => fun
  | [d1, d2, d3, d4, d5, d6, d7, d8, d9] => { results := [.lit (.bool false)], args := [d1, d2, d3, d4, d5, d6, d7, d8, d9] }
  | _ => none }
def WishMatchesReferenceWrongFalsely : Prop := wishMatchesReferenceRow.holds Tryz.pinned (OpenSpec.ofChange wishMatchesReferenceWrong)

/-- 'dialtonelaw15.WishTextsMatchReference': WHATEVER THE INPUT: true; the input reads as it did. -/
def wishTextsMatchReferenceSpec : ChangeSpec := { name := "wishTextsMatchReference", fn := fun _ => fun
  | [d1, d2, d3, d4, d5, d6, d7, d8, d9, d10] => { results := [.lit (.bool true)], args := [d1, d2, d3, d4, d5, d6, d7, d8, d9, d10] }
  | _ => none }
def wishTextsMatchReferenceRow : OpenClaim := { program := "ytmmfieceinmloaagreatdoor", sum := "8613ea1758d0bc6867b87739671d632ec2f3dd923aedf0e69b3ec47d00a94a03", func := "dialtone/dialtonelaw15.WishTextsMatchReference", spec := "wishTextsMatchReference", inPlace := ["internal/abi.NoEscape", "internal/bytealg.MakeNoZero"], unfollowed := true, recurses := true, named := ["dialtone/digest.round"], plainKeys := false, apart := false, laid := [("dialtone/digest.round", laid_dialtone_digest_round)] }
def WishTextsMatchReferenceSaid : Prop := wishTextsMatchReferenceRow.holds Tryz.pinned (OpenSpec.ofChange wishTextsMatchReferenceSpec)

/-- ITS FALSE NEIGHBOUR: 'it returns false'. Refute it at one input. -/
def wishTextsMatchReferenceWrong : ChangeSpec := { name := "wishTextsMatchReference", fn := fun _ => fun
  | [d1, d2, d3, d4, d5, d6, d7, d8, d9, d10] => { results := [.lit (.bool false)], args := [d1, d2, d3, d4, d5, d6, d7, d8, d9, d10] }
  | _ => none }
def WishTextsMatchReferenceWrongFalsely : Prop := wishTextsMatchReferenceRow.holds Tryz.pinned (OpenSpec.ofChange wishTextsMatchReferenceWrong)

/-- 'dialtonelaw15.WishBinds': WHATEVER THE INPUT: true; the input reads as it did. -/
def wishBindsSpec : ChangeSpec := { name := "wishBinds", fn := fun _ => fun
  | [d1, d2, d3, d4] => { results := [.lit (.bool true)], args := [d1, d2, d3, d4] }
  | _ => none }
def wishBindsRow : OpenClaim := { program := "ytmmfieceinmloaagreatdoor", sum := "8613ea1758d0bc6867b87739671d632ec2f3dd923aedf0e69b3ec47d00a94a03", func := "dialtone/dialtonelaw15.WishBinds", spec := "wishBinds", inPlace := ["internal/abi.NoEscape", "internal/bytealg.MakeNoZero"], unfollowed := true, recurses := true, named := ["dialtone/digest.round"], plainKeys := false, apart := false, laid := [("dialtone/digest.round", laid_dialtone_digest_round)] }
def WishBindsSaid : Prop := wishBindsRow.holds Tryz.pinned (OpenSpec.ofChange wishBindsSpec)

/-- ITS FALSE NEIGHBOUR: 'it returns false'. Refute it at one input. -/
def wishBindsWrong : ChangeSpec := { name := "wishBinds", fn := fun _ => fun
  | [d1, d2, d3, d4] => { results := [.lit (.bool false)], args := [d1, d2, d3, d4] }
  | _ => none }
def WishBindsWrongFalsely : Prop := wishBindsRow.holds Tryz.pinned (OpenSpec.ofChange wishBindsWrong)

/-- 'dialtonelaw16.ClaimMatchesReference': WHATEVER THE INPUT: true; the input reads as it did. -/
def claimMatchesReferenceSpec : ChangeSpec := { name := "claimMatchesReference", fn := fun _ => fun
  | [d1, d2, d3, d4, d5, d6, d7, d8, d9] => { results := [.lit (.bool true)], args := [d1, d2, d3, d4, d5, d6, d7, d8, d9] }
  | _ => none }
def claimMatchesReferenceRow : OpenClaim := { program := "ytmmfieceinmloaagreatdoor", sum := "8613ea1758d0bc6867b87739671d632ec2f3dd923aedf0e69b3ec47d00a94a03", func := "dialtone/dialtonelaw16.ClaimMatchesReference", spec := "claimMatchesReference", inPlace := ["internal/abi.NoEscape", "internal/bytealg.MakeNoZero"], unfollowed := true, recurses := true, named := ["dialtone/digest.round"], plainKeys := false, apart := false, laid := [("dialtone/digest.round", laid_dialtone_digest_round)] }
def ClaimMatchesReferenceSaid : Prop := claimMatchesReferenceRow.holds Tryz.pinned (OpenSpec.ofChange claimMatchesReferenceSpec)

/-- ITS FALSE NEIGHBOUR: 'it returns false'. Refute it at one input. -/
def claimMatchesReferenceWrong : ChangeSpec := { name := "claimMatchesReference", fn := fun _ => fun
  | [d1, d2, d3, d4, d5, d6, d7, d8, d9] => { results := [.lit (.bool false)], args := [d1, d2, d3, d4, d5, d6, d7, d8, d9] }
  | _ => none }
def ClaimMatchesReferenceWrongFalsely : Prop := claimMatchesReferenceRow.holds Tryz.pinned (OpenSpec.ofChange claimMatchesReferenceWrong)

/-- 'dialtonelaw16.ClaimWishes': WHATEVER THE INPUT: true; the input reads as it did. -/
def claimWishesSpec : ChangeSpec := { name := "claimWishes", fn := fun _ => fun
  | [d1, d2, d3, d4, d5, d6] => { results := [.lit (.bool true)], args := [d1, d2, d3, d4, d5, d6] }
  | _ => none }
def claimWishesRow : OpenClaim := { program := "ytmmfieceinmloaagreatdoor", sum := "8613ea1758d0bc6867b87739671d632ec2f3dd923aedf0e69b3ec47d00a94a03", func := "dialtone/dialtonelaw16.ClaimWishes", spec := "claimWishes", inPlace := ["internal/abi.NoEscape", "internal/bytealg.MakeNoZero"], unfollowed := true, recurses := true, named := ["dialtone/digest.round"], plainKeys := false, apart := false, laid := [("dialtone/digest.round", laid_dialtone_digest_round)] }
def ClaimWishesSaid : Prop := claimWishesRow.holds Tryz.pinned (OpenSpec.ofChange claimWishesSpec)

/-- ITS FALSE NEIGHBOUR: 'it returns false'. Refute it at one input. -/
def claimWishesWrong : ChangeSpec := { name := "claimWishes", fn := fun _ => fun
  | [d1, d2, d3, d4, d5, d6] => { results := [.lit (.bool false)], args := [d1, d2, d3, d4, d5, d6] }
  | _ => none }
def ClaimWishesWrongFalsely : Prop := claimWishesRow.holds Tryz.pinned (OpenSpec.ofChange claimWishesWrong)

/- THE SECOND FORM. 'bulk': how many values and letters a reading holds, each counted each time it is reached (what is shared counts as often as it is met; a slice's spare places count too). A statement '..UptoSaid' is the law's where the arguments, and the package variables that the reading takes, are together of bulk at most 1048576: NARROWER than '..Said'. Prove '..Said' where nothing that the law and all that it calls make is longer than what came in: it says more and counts as full. Else prove '..UptoSaid'. A law counts once. -/
mutual
def uptoBulk {H : Type} : DataW H → Nat
  | .lit (.string bytes) => bytes.length + 1
  | .lit _ => 1
  | .nil => 1
  | .ptr d => uptoBulk d + 1
  | .slice elems spare => uptoBulkAll elems + uptoBulkAll spare + 1
  | .agg parts => uptoBulkAll parts + 1
  | .iface _ d => uptoBulk d + 1
  | .map entries => uptoBulkEntries entries + 1
  | .held _ => 1
def uptoBulkAll {H : Type} : List (DataW H) → Nat
  | [] => 0
  | d :: r => uptoBulk d + uptoBulkAll r
def uptoBulkEntries {H : Type} : List (Lit × DataW H) → Nat
  | [] => 0
  | x :: r => uptoBulkEntry x + uptoBulkEntries r
def uptoBulkEntry {H : Type} : Lit × DataW H → Nat
  | (.string bytes, d) => bytes.length + uptoBulk d + 1
  | (_, d) => uptoBulk d + 1
 end
def uptoSmall : (H : Type) → List (DataW H) → Bool := fun _ ds => decide (uptoBulkAll ds ≤ 1048576)
def OpenSpec.upto (s : _root_.Go.ChangeSpec) : _root_.Go.OpenSpec := { _root_.Go.OpenSpec.ofChange s with cond := some uptoSmall }

/-- 'dialtonelaw15.WishMatchesReference', WHERE WHAT IT READS IS OF BULK AT MOST 1048576: true; the input reads as it did. -/
def wishMatchesReferenceUptoRow : OpenClaim := { program := "ytmmfieceinmloaagreatdoor", sum := "8613ea1758d0bc6867b87739671d632ec2f3dd923aedf0e69b3ec47d00a94a03", func := "dialtone/dialtonelaw15.WishMatchesReference", spec := "wishMatchesReference", inPlace := ["internal/abi.NoEscape", "internal/bytealg.MakeNoZero"], unfollowed := true, recurses := true, named := ["dialtone/digest.round"], plainKeys := false, apart := false, laid := [("dialtone/digest.round", laid_dialtone_digest_round)], narrowed := true }
def WishMatchesReferenceUptoSaid : Prop := wishMatchesReferenceUptoRow.holds Tryz.pinned (OpenSpec.upto wishMatchesReferenceSpec)

/-- 'dialtonelaw15.WishTextsMatchReference', WHERE WHAT IT READS IS OF BULK AT MOST 1048576: true; the input reads as it did. -/
def wishTextsMatchReferenceUptoRow : OpenClaim := { program := "ytmmfieceinmloaagreatdoor", sum := "8613ea1758d0bc6867b87739671d632ec2f3dd923aedf0e69b3ec47d00a94a03", func := "dialtone/dialtonelaw15.WishTextsMatchReference", spec := "wishTextsMatchReference", inPlace := ["internal/abi.NoEscape", "internal/bytealg.MakeNoZero"], unfollowed := true, recurses := true, named := ["dialtone/digest.round"], plainKeys := false, apart := false, laid := [("dialtone/digest.round", laid_dialtone_digest_round)], narrowed := true }
def WishTextsMatchReferenceUptoSaid : Prop := wishTextsMatchReferenceUptoRow.holds Tryz.pinned (OpenSpec.upto wishTextsMatchReferenceSpec)

/-- 'dialtonelaw15.WishBinds', WHERE WHAT IT READS IS OF BULK AT MOST 1048576: true; the input reads as it did. -/
def wishBindsUptoRow : OpenClaim := { program := "ytmmfieceinmloaagreatdoor", sum := "8613ea1758d0bc6867b87739671d632ec2f3dd923aedf0e69b3ec47d00a94a03", func := "dialtone/dialtonelaw15.WishBinds", spec := "wishBinds", inPlace := ["internal/abi.NoEscape", "internal/bytealg.MakeNoZero"], unfollowed := true, recurses := true, named := ["dialtone/digest.round"], plainKeys := false, apart := false, laid := [("dialtone/digest.round", laid_dialtone_digest_round)], narrowed := true }
def WishBindsUptoSaid : Prop := wishBindsUptoRow.holds Tryz.pinned (OpenSpec.upto wishBindsSpec)

/-- 'dialtonelaw16.ClaimMatchesReference', WHERE WHAT IT READS IS OF BULK AT MOST 1048576: true; the input reads as it did. -/
def claimMatchesReferenceUptoRow : OpenClaim := { program := "ytmmfieceinmloaagreatdoor", sum := "8613ea1758d0bc6867b87739671d632ec2f3dd923aedf0e69b3ec47d00a94a03", func := "dialtone/dialtonelaw16.ClaimMatchesReference", spec := "claimMatchesReference", inPlace := ["internal/abi.NoEscape", "internal/bytealg.MakeNoZero"], unfollowed := true, recurses := true, named := ["dialtone/digest.round"], plainKeys := false, apart := false, laid := [("dialtone/digest.round", laid_dialtone_digest_round)], narrowed := true }
def ClaimMatchesReferenceUptoSaid : Prop := claimMatchesReferenceUptoRow.holds Tryz.pinned (OpenSpec.upto claimMatchesReferenceSpec)

/-- 'dialtonelaw16.ClaimWishes', WHERE WHAT IT READS IS OF BULK AT MOST 1048576: true; the input reads as it did. -/
def claimWishesUptoRow : OpenClaim := { program := "ytmmfieceinmloaagreatdoor", sum := "8613ea1758d0bc6867b87739671d632ec2f3dd923aedf0e69b3ec47d00a94a03", func := "dialtone/dialtonelaw16.ClaimWishes", spec := "claimWishes", inPlace := ["internal/abi.NoEscape", "internal/bytealg.MakeNoZero"], unfollowed := true, recurses := true, named := ["dialtone/digest.round"], plainKeys := false, apart := false, laid := [("dialtone/digest.round", laid_dialtone_digest_round)], narrowed := true }
def ClaimWishesUptoSaid : Prop := claimWishesUptoRow.holds Tryz.pinned (OpenSpec.upto claimWishesSpec)

end Rows
end Go.Proofs.YtmmfieceinmloaaGreatDoor
