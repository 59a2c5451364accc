/-
  NARROWER THAN 'FOR EVERY INPUT', by the rows' own cells (each row's printed sentence says how): ReclaimTimes: laid · ReclaimReads: laid · ReclaimStatesMatchReference: laid · ReclaimOne: laid · ReclaimNever: laid · ReclaimReturns: laid · ReclaimKeeps: laid · ReclaimOwn: laid.
  DERIVED. THE GIVEN ROWS OF THIS SEAT. 8 by the template 'for every input the law returns true; each argument reads behind the call as it read before'; 0 by the template 'total and deterministic' (their statements: YtliklcmddmpdfaaGreatDoorTotals.lean).
  GIVEN WITH THE SEED: the statements are not yours to turn. If you find one false, say at which input.
  Laid BY PROGRAM, IN A SANDBOX (cutbox-rows.mjs): the forced cells as the released guide's own fill.sh prints them over the translation c6d056bf21350397… (all of the seat's roots in one cut). By AI agents, Wed Nov 11 2026. No macro, syntax, notation, axiom, sorry.
-/
import Derived.Test.YtliklcmddmpdfaaGreatDoorChecked
import GoSem.Claim
import GoSem.ClaimJoined
import GoSem.ClaimMapViews
import Derived.JoinedTies
import Derived.KernelRfl
namespace Go.Proofs.YtliklcmddmpdfaaGreatDoor
/- THE CELL 'sum', in the pinned program and in every row, IS THE sha256 OF THE DUMP (.gsa) THAT YtliklcmddmpdfaaGreatDoorProg.lean LOADS. Nothing in Lean hashes anything: it is a label: what it is worth is what the hold of that sum in a sandbox is worth. -/
noncomputable def Tryz.pinned : Pinned := { name := "ytliklcmddmpdfaagreatdoor", sum := "c6d056bf21350397e923a822afbe57fbf8499c2a7b25a2aa7fd857fa78261c04", checked := Tryz.checked }
namespace Rows
def none {H : Type} : Left H := { results := [], args := [] }

/- WHAT THE LISTED PACKAGE-LEVEL VARIABLES READ AS WHEN THE CALL BEGINS. Each datum BY PROGRAM (the guide's laid-datum.mjs) off the statement by which the dump's own 'gosem.cut.vars' lays the variable. In a bare row this is a premise. The card (YtliklcmddmpdfaaGreatDoorCards.lean) ties it to the program's text. -/
def laid_dialtone_digest_round {H : Type} : DataW H := .agg [.lit (.int .u32 1116352408), .lit (.int .u32 1899447441), .lit (.int .u32 3049323471), .lit (.int .u32 3921009573), .lit (.int .u32 961987163), .lit (.int .u32 1508970993), .lit (.int .u32 2453635748), .lit (.int .u32 2870763221), .lit (.int .u32 3624381080), .lit (.int .u32 310598401), .lit (.int .u32 607225278), .lit (.int .u32 1426881987), .lit (.int .u32 1925078388), .lit (.int .u32 2162078206), .lit (.int .u32 2614888103), .lit (.int .u32 3248222580), .lit (.int .u32 3835390401), .lit (.int .u32 4022224774), .lit (.int .u32 264347078), .lit (.int .u32 604807628), .lit (.int .u32 770255983), .lit (.int .u32 1249150122), .lit (.int .u32 1555081692), .lit (.int .u32 1996064986), .lit (.int .u32 2554220882), .lit (.int .u32 2821834349), .lit (.int .u32 2952996808), .lit (.int .u32 3210313671), .lit (.int .u32 3336571891), .lit (.int .u32 3584528711), .lit (.int .u32 113926993), .lit (.int .u32 338241895), .lit (.int .u32 666307205), .lit (.int .u32 773529912), .lit (.int .u32 1294757372), .lit (.int .u32 1396182291), .lit (.int .u32 1695183700), .lit (.int .u32 1986661051), .lit (.int .u32 2177026350), .lit (.int .u32 2456956037), .lit (.int .u32 2730485921), .lit (.int .u32 2820302411), .lit (.int .u32 3259730800), .lit (.int .u32 3345764771), .lit (.int .u32 3516065817), .lit (.int .u32 3600352804), .lit (.int .u32 4094571909), .lit (.int .u32 275423344), .lit (.int .u32 430227734), .lit (.int .u32 506948616), .lit (.int .u32 659060556), .lit (.int .u32 883997877), .lit (.int .u32 958139571), .lit (.int .u32 1322822218), .lit (.int .u32 1537002063), .lit (.int .u32 1747873779), .lit (.int .u32 1955562222), .lit (.int .u32 2024104815), .lit (.int .u32 2227730452), .lit (.int .u32 2361852424), .lit (.int .u32 2428436474), .lit (.int .u32 2756734187), .lit (.int .u32 3204031479), .lit (.int .u32 3329325298)]

/-- 'dialtonelaw21.ReclaimTimes': WHATEVER THE INPUT: true; the input reads as it did. -/
def reclaimTimesSpec : ChangeSpec := { name := "reclaimTimes", fn := fun _ => fun
  | [d1, d2, d3, d4, d5, d6, d7, d8] => { results := [.lit (.bool true)], args := [d1, d2, d3, d4, d5, d6, d7, d8] }
  | _ => none }
def reclaimTimesRow : OpenClaim := { program := "ytliklcmddmpdfaagreatdoor", sum := "c6d056bf21350397e923a822afbe57fbf8499c2a7b25a2aa7fd857fa78261c04", func := "dialtone/dialtonelaw21.ReclaimTimes", spec := "reclaimTimes", inPlace := ["internal/abi.NoEscape", "internal/bytealg.MakeNoZero"], unfollowed := true, recurses := true, named := ["dialtone/digest.round"], apart := false, laid := [("dialtone/digest.round", laid_dialtone_digest_round)] }
def ReclaimTimesSaid : Prop := reclaimTimesRow.holds Tryz.pinned (OpenSpec.ofChange reclaimTimesSpec)

/-- ITS FALSE NEIGHBOUR: 'it returns false'. Refute it at one input. -/
def reclaimTimesWrong : ChangeSpec := { name := "reclaimTimes", fn := fun _ => fun
  | [d1, d2, d3, d4, d5, d6, d7, d8] => { results := [.lit (.bool false)], args := [d1, d2, d3, d4, d5, d6, d7, d8] }
  | _ => none }
def ReclaimTimesWrongFalsely : Prop := reclaimTimesRow.holds Tryz.pinned (OpenSpec.ofChange reclaimTimesWrong)

/-- 'dialtonelaw21.ReclaimReads': WHATEVER THE INPUT: true; the input reads as it did. -/
def reclaimReadsSpec : ChangeSpec := { name := "reclaimReads", fn := fun _ => fun
  | [d1, d2, d3, d4] => { results := [.lit (.bool true)], args := [d1, d2, d3, d4] }
  | _ => none }
def reclaimReadsRow : OpenClaim := { program := "ytliklcmddmpdfaagreatdoor", sum := "c6d056bf21350397e923a822afbe57fbf8499c2a7b25a2aa7fd857fa78261c04", func := "dialtone/dialtonelaw21.ReclaimReads", spec := "reclaimReads", inPlace := ["internal/abi.NoEscape", "internal/bytealg.MakeNoZero"], unfollowed := true, recurses := true, named := ["dialtone/digest.round"], apart := false, laid := [("dialtone/digest.round", laid_dialtone_digest_round)] }
def ReclaimReadsSaid : Prop := reclaimReadsRow.holds Tryz.pinned (OpenSpec.ofChange reclaimReadsSpec)

/-- ITS FALSE NEIGHBOUR: 'it returns false'. Refute it at one input. -/
def reclaimReadsWrong : ChangeSpec := { name := "reclaimReads", fn := fun _ => fun
  | [d1, d2, d3, d4] => { results := [.lit (.bool false)], args := [d1, d2, d3, d4] }
  | _ => none }
def ReclaimReadsWrongFalsely : Prop := reclaimReadsRow.holds Tryz.pinned (OpenSpec.ofChange reclaimReadsWrong)

/-- 'dialtonelaw21.ReclaimStatesMatchReference': WHATEVER THE INPUT: true; the input reads as it did. -/
def reclaimStatesMatchReferenceSpec : ChangeSpec := { name := "reclaimStatesMatchReference", fn := fun _ => fun
  | [d1, d2, d3, d4, d5, d6, d7, d8, d9] => { results := [.lit (.bool true)], args := [d1, d2, d3, d4, d5, d6, d7, d8, d9] }
  | _ => none }
def reclaimStatesMatchReferenceRow : OpenClaim := { program := "ytliklcmddmpdfaagreatdoor", sum := "c6d056bf21350397e923a822afbe57fbf8499c2a7b25a2aa7fd857fa78261c04", func := "dialtone/dialtonelaw21.ReclaimStatesMatchReference", spec := "reclaimStatesMatchReference", inPlace := ["internal/abi.NoEscape", "internal/bytealg.MakeNoZero"], unfollowed := true, recurses := true, named := ["dialtone/digest.round"], apart := false, laid := [("dialtone/digest.round", laid_dialtone_digest_round)] }
def ReclaimStatesMatchReferenceSaid : Prop := reclaimStatesMatchReferenceRow.holds Tryz.pinned (OpenSpec.ofChange reclaimStatesMatchReferenceSpec)

/-- ITS FALSE NEIGHBOUR: 'it returns false'. Refute it at one input. -/
def reclaimStatesMatchReferenceWrong : ChangeSpec := { name := "reclaimStatesMatchReference", fn := fun _ => fun
  | [d1, d2, d3, d4, d5, d6, d7, d8, d9] => { results := [.lit (.bool false)], args := [d1, d2, d3, d4, d5, d6, d7, d8, d9] }
  | _ => none }
def ReclaimStatesMatchReferenceWrongFalsely : Prop := reclaimStatesMatchReferenceRow.holds Tryz.pinned (OpenSpec.ofChange reclaimStatesMatchReferenceWrong)

/-- 'dialtonelaw21.ReclaimOne': WHATEVER THE INPUT: true; the input reads as it did. -/
def reclaimOneSpec : ChangeSpec := { name := "reclaimOne", fn := fun _ => fun
  | [d1, d2, d3] => { results := [.lit (.bool true)], args := [d1, d2, d3] }
  | _ => none }
def reclaimOneRow : OpenClaim := { program := "ytliklcmddmpdfaagreatdoor", sum := "c6d056bf21350397e923a822afbe57fbf8499c2a7b25a2aa7fd857fa78261c04", func := "dialtone/dialtonelaw21.ReclaimOne", spec := "reclaimOne", inPlace := ["internal/abi.NoEscape", "internal/bytealg.MakeNoZero"], unfollowed := true, recurses := true, named := ["dialtone/digest.round"], apart := false, laid := [("dialtone/digest.round", laid_dialtone_digest_round)] }
def ReclaimOneSaid : Prop := reclaimOneRow.holds Tryz.pinned (OpenSpec.ofChange reclaimOneSpec)

/-- ITS FALSE NEIGHBOUR: 'it returns false'. Refute it at one input. -/
def reclaimOneWrong : ChangeSpec := { name := "reclaimOne", fn := fun _ => fun
  | [d1, d2, d3] => { results := [.lit (.bool false)], args := [d1, d2, d3] }
  | _ => none }
def ReclaimOneWrongFalsely : Prop := reclaimOneRow.holds Tryz.pinned (OpenSpec.ofChange reclaimOneWrong)

/-- 'dialtonelaw21.ReclaimNever': WHATEVER THE INPUT: true; the input reads as it did. -/
def reclaimNeverSpec : ChangeSpec := { name := "reclaimNever", fn := fun _ => fun
  | [d1, d2, d3, d4, d5] => { results := [.lit (.bool true)], args := [d1, d2, d3, d4, d5] }
  | _ => none }
def reclaimNeverRow : OpenClaim := { program := "ytliklcmddmpdfaagreatdoor", sum := "c6d056bf21350397e923a822afbe57fbf8499c2a7b25a2aa7fd857fa78261c04", func := "dialtone/dialtonelaw21.ReclaimNever", spec := "reclaimNever", inPlace := ["internal/abi.NoEscape", "internal/bytealg.MakeNoZero"], unfollowed := true, recurses := true, named := ["dialtone/digest.round"], apart := false, laid := [("dialtone/digest.round", laid_dialtone_digest_round)] }
def ReclaimNeverSaid : Prop := reclaimNeverRow.holds Tryz.pinned (OpenSpec.ofChange reclaimNeverSpec)

/-- ITS FALSE NEIGHBOUR: 'it returns false'. Refute it at one input. -/
def reclaimNeverWrong : ChangeSpec := { name := "reclaimNever", fn := fun _ => fun
  | [d1, d2, d3, d4, d5] => { results := [.lit (.bool false)], args := [d1, d2, d3, d4, d5] }
  | _ => none }
def ReclaimNeverWrongFalsely : Prop := reclaimNeverRow.holds Tryz.pinned (OpenSpec.ofChange reclaimNeverWrong)

/-- 'dialtonelaw21.ReclaimReturns': WHATEVER THE INPUT: true; the input reads as it did. -/
def reclaimReturnsSpec : ChangeSpec := { name := "reclaimReturns", fn := fun _ => fun
  | [d1, d2, d3, d4, d5, d6, d7, d8] => { results := [.lit (.bool true)], args := [d1, d2, d3, d4, d5, d6, d7, d8] }
  | _ => none }
def reclaimReturnsRow : OpenClaim := { program := "ytliklcmddmpdfaagreatdoor", sum := "c6d056bf21350397e923a822afbe57fbf8499c2a7b25a2aa7fd857fa78261c04", func := "dialtone/dialtonelaw21.ReclaimReturns", spec := "reclaimReturns", inPlace := ["internal/abi.NoEscape", "internal/bytealg.MakeNoZero"], unfollowed := true, recurses := true, named := ["dialtone/digest.round"], apart := false, laid := [("dialtone/digest.round", laid_dialtone_digest_round)] }
def ReclaimReturnsSaid : Prop := reclaimReturnsRow.holds Tryz.pinned (OpenSpec.ofChange reclaimReturnsSpec)

/-- ITS FALSE NEIGHBOUR: 'it returns false'. Refute it at one input. -/
def reclaimReturnsWrong : ChangeSpec := { name := "reclaimReturns", fn := fun _ => fun
  | [d1, d2, d3, d4, d5, d6, d7, d8] => { results := [.lit (.bool false)], args := [d1, d2, d3, d4, d5, d6, d7, d8] }
  | _ => none }
def ReclaimReturnsWrongFalsely : Prop := reclaimReturnsRow.holds Tryz.pinned (OpenSpec.ofChange reclaimReturnsWrong)

/-- 'dialtonelaw21.ReclaimKeeps': WHATEVER THE INPUT: true; the input reads as it did. -/
def reclaimKeepsSpec : ChangeSpec := { name := "reclaimKeeps", fn := fun _ => fun
  | [d1, d2, d3, d4, d5, d6, d7] => { results := [.lit (.bool true)], args := [d1, d2, d3, d4, d5, d6, d7] }
  | _ => none }
def reclaimKeepsRow : OpenClaim := { program := "ytliklcmddmpdfaagreatdoor", sum := "c6d056bf21350397e923a822afbe57fbf8499c2a7b25a2aa7fd857fa78261c04", func := "dialtone/dialtonelaw21.ReclaimKeeps", spec := "reclaimKeeps", inPlace := ["internal/abi.NoEscape", "internal/bytealg.MakeNoZero"], unfollowed := true, recurses := true, named := ["dialtone/digest.round"], apart := false, laid := [("dialtone/digest.round", laid_dialtone_digest_round)] }
def ReclaimKeepsSaid : Prop := reclaimKeepsRow.holds Tryz.pinned (OpenSpec.ofChange reclaimKeepsSpec)

/-- ITS FALSE NEIGHBOUR: 'it returns false'. Refute it at one input. -/
def reclaimKeepsWrong : ChangeSpec := { name := "reclaimKeeps", fn := fun _ => fun
  | [d1, d2, d3, d4, d5, d6, d7] => { results := [.lit (.bool false)], args := [d1, d2, d3, d4, d5, d6, d7] }
  | _ => none }
def ReclaimKeepsWrongFalsely : Prop := reclaimKeepsRow.holds Tryz.pinned (OpenSpec.ofChange reclaimKeepsWrong)

/-- 'dialtonelaw21.ReclaimOwn': WHATEVER THE INPUT: true; the input reads as it did. -/
def reclaimOwnSpec : ChangeSpec := { name := "reclaimOwn", fn := fun _ => fun
  | [d1, d2, d3, d4, d5] => { results := [.lit (.bool true)], args := [d1, d2, d3, d4, d5] }
  | _ => none }
def reclaimOwnRow : OpenClaim := { program := "ytliklcmddmpdfaagreatdoor", sum := "c6d056bf21350397e923a822afbe57fbf8499c2a7b25a2aa7fd857fa78261c04", func := "dialtone/dialtonelaw21.ReclaimOwn", spec := "reclaimOwn", inPlace := ["internal/abi.NoEscape", "internal/bytealg.MakeNoZero"], unfollowed := true, recurses := true, named := ["dialtone/digest.round"], apart := false, laid := [("dialtone/digest.round", laid_dialtone_digest_round)] }
def ReclaimOwnSaid : Prop := reclaimOwnRow.holds Tryz.pinned (OpenSpec.ofChange reclaimOwnSpec)

/-- ITS FALSE NEIGHBOUR: 'it returns false'. Refute it at one input. -/
def reclaimOwnWrong : ChangeSpec := { name := "reclaimOwn", fn := fun _ => fun
  | [d1, d2, d3, d4, d5] => { results := [.lit (.bool false)], args := [d1, d2, d3, d4, d5] }
  | _ => none }
def ReclaimOwnWrongFalsely : Prop := reclaimOwnRow.holds Tryz.pinned (OpenSpec.ofChange reclaimOwnWrong)

/- THE SECOND FORM. 'bulk': how many values and letters a reading holds, each counted each time it is reached (what is shared counts as often as it is met; a slice's spare places count too). A statement '..UptoSaid' is the law's where the arguments, and the package variables that the reading takes, are together of bulk at most 1048576: NARROWER than '..Said'. Prove '..Said' where nothing that the law and all that it calls make is longer than what came in: it says more and counts as full. Else prove '..UptoSaid'. A law counts once. -/
mutual
def uptoBulk {H : Type} : DataW H → Nat
  | .lit (.string bytes) => bytes.length + 1
  | .lit _ => 1
  | .nil => 1
  | .ptr d => uptoBulk d + 1
  | .slice elems spare => uptoBulkAll elems + uptoBulkAll spare + 1
  | .agg parts => uptoBulkAll parts + 1
  | .iface _ d => uptoBulk d + 1
  | .map entries => uptoBulkEntries entries + 1
  | .held _ => 1
def uptoBulkAll {H : Type} : List (DataW H) → Nat
  | [] => 0
  | d :: r => uptoBulk d + uptoBulkAll r
def uptoBulkEntries {H : Type} : List (Lit × DataW H) → Nat
  | [] => 0
  | x :: r => uptoBulkEntry x + uptoBulkEntries r
def uptoBulkEntry {H : Type} : Lit × DataW H → Nat
  | (.string bytes, d) => bytes.length + uptoBulk d + 1
  | (_, d) => uptoBulk d + 1
 end
def uptoSmall : (H : Type) → List (DataW H) → Bool := fun _ ds => decide (uptoBulkAll ds ≤ 1048576)
def OpenSpec.upto (s : _root_.Go.ChangeSpec) : _root_.Go.OpenSpec := { _root_.Go.OpenSpec.ofChange s with cond := some uptoSmall }

/-- 'dialtonelaw21.ReclaimTimes', WHERE WHAT IT READS IS OF BULK AT MOST 1048576: true; the input reads as it did. -/
def reclaimTimesUptoRow : OpenClaim := { program := "ytliklcmddmpdfaagreatdoor", sum := "c6d056bf21350397e923a822afbe57fbf8499c2a7b25a2aa7fd857fa78261c04", func := "dialtone/dialtonelaw21.ReclaimTimes", spec := "reclaimTimes", inPlace := ["internal/abi.NoEscape", "internal/bytealg.MakeNoZero"], unfollowed := true, recurses := true, named := ["dialtone/digest.round"], apart := false, laid := [("dialtone/digest.round", laid_dialtone_digest_round)], narrowed := true }
def ReclaimTimesUptoSaid : Prop := reclaimTimesUptoRow.holds Tryz.pinned (OpenSpec.upto reclaimTimesSpec)

/-- 'dialtonelaw21.ReclaimReads', WHERE WHAT IT READS IS OF BULK AT MOST 1048576: true; the input reads as it did. -/
def reclaimReadsUptoRow : OpenClaim := { program := "ytliklcmddmpdfaagreatdoor", sum := "c6d056bf21350397e923a822afbe57fbf8499c2a7b25a2aa7fd857fa78261c04", func := "dialtone/dialtonelaw21.ReclaimReads", spec := "reclaimReads", inPlace := ["internal/abi.NoEscape", "internal/bytealg.MakeNoZero"], unfollowed := true, recurses := true, named := ["dialtone/digest.round"], apart := false, laid := [("dialtone/digest.round", laid_dialtone_digest_round)], narrowed := true }
def ReclaimReadsUptoSaid : Prop := reclaimReadsUptoRow.holds Tryz.pinned (OpenSpec.upto reclaimReadsSpec)

/-- 'dialtonelaw21.ReclaimStatesMatchReference', WHERE WHAT IT READS IS OF BULK AT MOST 1048576: true; the input reads as it did. -/
def reclaimStatesMatchReferenceUptoRow : OpenClaim := { program := "ytliklcmddmpdfaagreatdoor", sum := "c6d056bf21350397e923a822afbe57fbf8499c2a7b25a2aa7fd857fa78261c04", func := "dialtone/dialtonelaw21.ReclaimStatesMatchReference", spec := "reclaimStatesMatchReference", inPlace := ["internal/abi.NoEscape", "internal/bytealg.MakeNoZero"], unfollowed := true, recurses := true, named := ["dialtone/digest.round"], apart := false, laid := [("dialtone/digest.round", laid_dialtone_digest_round)], narrowed := true }
def ReclaimStatesMatchReferenceUptoSaid : Prop := reclaimStatesMatchReferenceUptoRow.holds Tryz.pinned (OpenSpec.upto reclaimStatesMatchReferenceSpec)

/-- 'dialtonelaw21.ReclaimOne', WHERE WHAT IT READS IS OF BULK AT MOST 1048576: true; the input reads as it did. -/
def reclaimOneUptoRow : OpenClaim := { program := "ytliklcmddmpdfaagreatdoor", sum := "c6d056bf21350397e923a822afbe57fbf8499c2a7b25a2aa7fd857fa78261c04", func := "dialtone/dialtonelaw21.ReclaimOne", spec := "reclaimOne", inPlace := ["internal/abi.NoEscape", "internal/bytealg.MakeNoZero"], unfollowed := true, recurses := true, named := ["dialtone/digest.round"], apart := false, laid := [("dialtone/digest.round", laid_dialtone_digest_round)], narrowed := true }
def ReclaimOneUptoSaid : Prop := reclaimOneUptoRow.holds Tryz.pinned (OpenSpec.upto reclaimOneSpec)

/-- 'dialtonelaw21.ReclaimNever', WHERE WHAT IT READS IS OF BULK AT MOST 1048576: true; the input reads as it did. -/
def reclaimNeverUptoRow : OpenClaim := { program := "ytliklcmddmpdfaagreatdoor", sum := "c6d056bf21350397e923a822afbe57fbf8499c2a7b25a2aa7fd857fa78261c04", func := "dialtone/dialtonelaw21.ReclaimNever", spec := "reclaimNever", inPlace := ["internal/abi.NoEscape", "internal/bytealg.MakeNoZero"], unfollowed := true, recurses := true, named := ["dialtone/digest.round"], apart := false, laid := [("dialtone/digest.round", laid_dialtone_digest_round)], narrowed := true }
def ReclaimNeverUptoSaid : Prop := reclaimNeverUptoRow.holds Tryz.pinned (OpenSpec.upto reclaimNeverSpec)

/-- 'dialtonelaw21.ReclaimReturns', WHERE WHAT IT READS IS OF BULK AT MOST 1048576: true; the input reads as it did. -/
def reclaimReturnsUptoRow : OpenClaim := { program := "ytliklcmddmpdfaagreatdoor", sum := "c6d056bf21350397e923a822afbe57fbf8499c2a7b25a2aa7fd857fa78261c04", func := "dialtone/dialtonelaw21.ReclaimReturns", spec := "reclaimReturns", inPlace := ["internal/abi.NoEscape", "internal/bytealg.MakeNoZero"], unfollowed := true, recurses := true, named := ["dialtone/digest.round"], apart := false, laid := [("dialtone/digest.round", laid_dialtone_digest_round)], narrowed := true }
def ReclaimReturnsUptoSaid : Prop := reclaimReturnsUptoRow.holds Tryz.pinned (OpenSpec.upto reclaimReturnsSpec)

/-- 'dialtonelaw21.ReclaimKeeps', WHERE WHAT IT READS IS OF BULK AT MOST 1048576: true; the input reads as it did. -/
def reclaimKeepsUptoRow : OpenClaim := { program := "ytliklcmddmpdfaagreatdoor", sum := "c6d056bf21350397e923a822afbe57fbf8499c2a7b25a2aa7fd857fa78261c04", func := "dialtone/dialtonelaw21.ReclaimKeeps", spec := "reclaimKeeps", inPlace := ["internal/abi.NoEscape", "internal/bytealg.MakeNoZero"], unfollowed := true, recurses := true, named := ["dialtone/digest.round"], apart := false, laid := [("dialtone/digest.round", laid_dialtone_digest_round)], narrowed := true }
def ReclaimKeepsUptoSaid : Prop := reclaimKeepsUptoRow.holds Tryz.pinned (OpenSpec.upto reclaimKeepsSpec)

/-- 'dialtonelaw21.ReclaimOwn', WHERE WHAT IT READS IS OF BULK AT MOST 1048576: true; the input reads as it did. -/
def reclaimOwnUptoRow : OpenClaim := { program := "ytliklcmddmpdfaagreatdoor", sum := "c6d056bf21350397e923a822afbe57fbf8499c2a7b25a2aa7fd857fa78261c04", func := "dialtone/dialtonelaw21.ReclaimOwn", spec := "reclaimOwn", inPlace := ["internal/abi.NoEscape", "internal/bytealg.MakeNoZero"], unfollowed := true, recurses := true, named := ["dialtone/digest.round"], apart := false, laid := [("dialtone/digest.round", laid_dialtone_digest_round)], narrowed := true }
def ReclaimOwnUptoSaid : Prop := reclaimOwnUptoRow.holds Tryz.pinned (OpenSpec.upto reclaimOwnSpec)

end Rows
end Go.Proofs.YtliklcmddmpdfaaGreatDoor
