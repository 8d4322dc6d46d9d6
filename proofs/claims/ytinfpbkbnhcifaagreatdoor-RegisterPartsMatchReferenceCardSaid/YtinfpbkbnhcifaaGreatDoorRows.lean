/-
  NARROWER THAN 'FOR EVERY INPUT', by the rows' own cells (each row's printed sentence says how): RegisterPartsMatchReference: laid · RegisterShows: laid · RegisterGrows: laid · RegisterHonest: laid · RegisterConvicts: laid · RegisterHeads: laid · RegisterJoins: laid · RegisterMatchesReference: laid · RegisterAppends: laid.
  DERIVED. THE GIVEN ROWS OF THIS SEAT. 9 by the template 'for every input the law returns true; each argument reads behind the call as it read before'; 0 by the template 'total and deterministic' (their statements: YtinfpbkbnhcifaaGreatDoorTotals.lean).
  GIVEN WITH THE SEED: the statements are not yours to turn. If you find one false, say at which input.
  Laid BY PROGRAM, IN A SANDBOX (cutbox-rows.mjs): the forced cells as the released guide's own fill.sh prints them over the translation 6b55b3e88a65f499… (all of the seat's roots in one cut). By AI agents, Wed Nov 11 2026. No macro, syntax, notation, axiom, sorry.
-/
import Derived.Test.YtinfpbkbnhcifaaGreatDoorChecked
import GoSem.Claim
import GoSem.ClaimJoined
import GoSem.ClaimMapViews
import Derived.JoinedTies
import Derived.KernelRfl
namespace Go.Proofs.YtinfpbkbnhcifaaGreatDoor
/- THE CELL 'sum', in the pinned program and in every row, IS THE sha256 OF THE DUMP (.gsa) THAT YtinfpbkbnhcifaaGreatDoorProg.lean LOADS. Nothing in Lean hashes anything: it is a label: what it is worth is what the hold of that sum in a sandbox is worth. -/
noncomputable def Tryz.pinned : Pinned := { name := "ytinfpbkbnhcifaagreatdoor", sum := "6b55b3e88a65f4995756a2b58c63562e086694e6873897bd24c85e62a2196ca6", checked := Tryz.checked }
namespace Rows
def none {H : Type} : Left H := { results := [], args := [] }

/- WHAT THE LISTED PACKAGE-LEVEL VARIABLES READ AS WHEN THE CALL BEGINS. Each datum BY PROGRAM (the guide's laid-datum.mjs) off the statement by which the dump's own 'gosem.cut.vars' lays the variable. In a bare row this is a premise. The card (YtinfpbkbnhcifaaGreatDoorCards.lean) ties it to the program's text. -/
def laid_dialtone_digest_round {H : Type} : DataW H := .agg [.lit (.int .u32 1116352408), .lit (.int .u32 1899447441), .lit (.int .u32 3049323471), .lit (.int .u32 3921009573), .lit (.int .u32 961987163), .lit (.int .u32 1508970993), .lit (.int .u32 2453635748), .lit (.int .u32 2870763221), .lit (.int .u32 3624381080), .lit (.int .u32 310598401), .lit (.int .u32 607225278), .lit (.int .u32 1426881987), .lit (.int .u32 1925078388), .lit (.int .u32 2162078206), .lit (.int .u32 2614888103), .lit (.int .u32 3248222580), .lit (.int .u32 3835390401), .lit (.int .u32 4022224774), .lit (.int .u32 264347078), .lit (.int .u32 604807628), .lit (.int .u32 770255983), .lit (.int .u32 1249150122), .lit (.int .u32 1555081692), .lit (.int .u32 1996064986), .lit (.int .u32 2554220882), .lit (.int .u32 2821834349), .lit (.int .u32 2952996808), .lit (.int .u32 3210313671), .lit (.int .u32 3336571891), .lit (.int .u32 3584528711), .lit (.int .u32 113926993), .lit (.int .u32 338241895), .lit (.int .u32 666307205), .lit (.int .u32 773529912), .lit (.int .u32 1294757372), .lit (.int .u32 1396182291), .lit (.int .u32 1695183700), .lit (.int .u32 1986661051), .lit (.int .u32 2177026350), .lit (.int .u32 2456956037), .lit (.int .u32 2730485921), .lit (.int .u32 2820302411), .lit (.int .u32 3259730800), .lit (.int .u32 3345764771), .lit (.int .u32 3516065817), .lit (.int .u32 3600352804), .lit (.int .u32 4094571909), .lit (.int .u32 275423344), .lit (.int .u32 430227734), .lit (.int .u32 506948616), .lit (.int .u32 659060556), .lit (.int .u32 883997877), .lit (.int .u32 958139571), .lit (.int .u32 1322822218), .lit (.int .u32 1537002063), .lit (.int .u32 1747873779), .lit (.int .u32 1955562222), .lit (.int .u32 2024104815), .lit (.int .u32 2227730452), .lit (.int .u32 2361852424), .lit (.int .u32 2428436474), .lit (.int .u32 2756734187), .lit (.int .u32 3204031479), .lit (.int .u32 3329325298)]

/-- 'dialtonelaw18.RegisterPartsMatchReference': WHATEVER THE INPUT: true; the input reads as it did. -/
def registerPartsMatchReferenceSpec : ChangeSpec := { name := "registerPartsMatchReference", fn := fun _ => fun
  | [d1, d2, d3, d4, d5, d6, d7, d8, d9, d10] => { results := [.lit (.bool true)], args := [d1, d2, d3, d4, d5, d6, d7, d8, d9, d10] }
  | _ => none }
def registerPartsMatchReferenceRow : OpenClaim := { program := "ytinfpbkbnhcifaagreatdoor", sum := "6b55b3e88a65f4995756a2b58c63562e086694e6873897bd24c85e62a2196ca6", func := "dialtone/dialtonelaw18.RegisterPartsMatchReference", spec := "registerPartsMatchReference", inPlace := ["internal/abi.NoEscape", "internal/bytealg.MakeNoZero"], unfollowed := true, recurses := true, named := ["dialtone/digest.round"], apart := false, laid := [("dialtone/digest.round", laid_dialtone_digest_round)] }
def RegisterPartsMatchReferenceSaid : Prop := registerPartsMatchReferenceRow.holds Tryz.pinned (OpenSpec.ofChange registerPartsMatchReferenceSpec)

/-- ITS FALSE NEIGHBOUR: 'it returns false'. Refute it at one input. -/
def registerPartsMatchReferenceWrong : ChangeSpec := { name := "registerPartsMatchReference", fn := fun _ => fun
  | [d1, d2, d3, d4, d5, d6, d7, d8, d9, d10] => { results := [.lit (.bool false)], args := [d1, d2, d3, d4, d5, d6, d7, d8, d9, d10] }
  | _ => none }
def RegisterPartsMatchReferenceWrongFalsely : Prop := registerPartsMatchReferenceRow.holds Tryz.pinned (OpenSpec.ofChange registerPartsMatchReferenceWrong)

/-- 'dialtonelaw18.RegisterShows': WHATEVER THE INPUT: true; the input reads as it did. -/
def registerShowsSpec : ChangeSpec := { name := "registerShows", fn := fun _ => fun
  | [d1, d2, d3, d4, d5, d6, d7] => { results := [.lit (.bool true)], args := [d1, d2, d3, d4, d5, d6, d7] }
  | _ => none }
def registerShowsRow : OpenClaim := { program := "ytinfpbkbnhcifaagreatdoor", sum := "6b55b3e88a65f4995756a2b58c63562e086694e6873897bd24c85e62a2196ca6", func := "dialtone/dialtonelaw18.RegisterShows", spec := "registerShows", inPlace := ["internal/abi.NoEscape", "internal/bytealg.MakeNoZero"], unfollowed := true, recurses := true, named := ["dialtone/digest.round"], apart := false, laid := [("dialtone/digest.round", laid_dialtone_digest_round)] }
def RegisterShowsSaid : Prop := registerShowsRow.holds Tryz.pinned (OpenSpec.ofChange registerShowsSpec)

/-- ITS FALSE NEIGHBOUR: 'it returns false'. Refute it at one input. -/
def registerShowsWrong : ChangeSpec := { name := "registerShows", fn := fun _ => fun
  | [d1, d2, d3, d4, d5, d6, d7] => { results := [.lit (.bool false)], args := [d1, d2, d3, d4, d5, d6, d7] }
  | _ => none }
def RegisterShowsWrongFalsely : Prop := registerShowsRow.holds Tryz.pinned (OpenSpec.ofChange registerShowsWrong)

/-- 'dialtonelaw18.RegisterGrows': WHATEVER THE INPUT: true; the input reads as it did. -/
def registerGrowsSpec : ChangeSpec := { name := "registerGrows", fn := fun _ => fun
  | [d1, d2, d3, d4, d5, d6, d7] => { results := [.lit (.bool true)], args := [d1, d2, d3, d4, d5, d6, d7] }
  | _ => none }
def registerGrowsRow : OpenClaim := { program := "ytinfpbkbnhcifaagreatdoor", sum := "6b55b3e88a65f4995756a2b58c63562e086694e6873897bd24c85e62a2196ca6", func := "dialtone/dialtonelaw18.RegisterGrows", spec := "registerGrows", inPlace := ["internal/abi.NoEscape", "internal/bytealg.MakeNoZero"], unfollowed := true, recurses := true, named := ["dialtone/digest.round"], apart := false, laid := [("dialtone/digest.round", laid_dialtone_digest_round)] }
def RegisterGrowsSaid : Prop := registerGrowsRow.holds Tryz.pinned (OpenSpec.ofChange registerGrowsSpec)

/-- ITS FALSE NEIGHBOUR: 'it returns false'. Refute it at one input. -/
def registerGrowsWrong : ChangeSpec := { name := "registerGrows", fn := fun _ => fun
  | [d1, d2, d3, d4, d5, d6, d7] => { results := [.lit (.bool false)], args := [d1, d2, d3, d4, d5, d6, d7] }
  | _ => none }
def RegisterGrowsWrongFalsely : Prop := registerGrowsRow.holds Tryz.pinned (OpenSpec.ofChange registerGrowsWrong)

/-- 'dialtonelaw18.RegisterHonest': WHATEVER THE INPUT: true; the input reads as it did. -/
def registerHonestSpec : ChangeSpec := { name := "registerHonest", fn := fun _ => fun
  | [d1, d2, d3, d4, d5, d6, d7] => { results := [.lit (.bool true)], args := [d1, d2, d3, d4, d5, d6, d7] }
  | _ => none }
def registerHonestRow : OpenClaim := { program := "ytinfpbkbnhcifaagreatdoor", sum := "6b55b3e88a65f4995756a2b58c63562e086694e6873897bd24c85e62a2196ca6", func := "dialtone/dialtonelaw18.RegisterHonest", spec := "registerHonest", inPlace := ["internal/abi.NoEscape", "internal/bytealg.MakeNoZero"], unfollowed := true, recurses := true, named := ["dialtone/digest.round"], apart := false, laid := [("dialtone/digest.round", laid_dialtone_digest_round)] }
def RegisterHonestSaid : Prop := registerHonestRow.holds Tryz.pinned (OpenSpec.ofChange registerHonestSpec)

/-- ITS FALSE NEIGHBOUR: 'it returns false'. Refute it at one input. -/
def registerHonestWrong : ChangeSpec := { name := "registerHonest", fn := fun _ => fun
  | [d1, d2, d3, d4, d5, d6, d7] => { results := [.lit (.bool false)], args := [d1, d2, d3, d4, d5, d6, d7] }
  | _ => none }
def RegisterHonestWrongFalsely : Prop := registerHonestRow.holds Tryz.pinned (OpenSpec.ofChange registerHonestWrong)

/-- 'dialtonelaw18.RegisterConvicts': WHATEVER THE INPUT: true; the input reads as it did. -/
def registerConvictsSpec : ChangeSpec := { name := "registerConvicts", fn := fun _ => fun
  | [d1, d2, d3, d4, d5, d6] => { results := [.lit (.bool true)], args := [d1, d2, d3, d4, d5, d6] }
  | _ => none }
def registerConvictsRow : OpenClaim := { program := "ytinfpbkbnhcifaagreatdoor", sum := "6b55b3e88a65f4995756a2b58c63562e086694e6873897bd24c85e62a2196ca6", func := "dialtone/dialtonelaw18.RegisterConvicts", spec := "registerConvicts", inPlace := ["internal/abi.NoEscape", "internal/bytealg.MakeNoZero"], unfollowed := true, recurses := true, named := ["dialtone/digest.round"], apart := false, laid := [("dialtone/digest.round", laid_dialtone_digest_round)] }
def RegisterConvictsSaid : Prop := registerConvictsRow.holds Tryz.pinned (OpenSpec.ofChange registerConvictsSpec)

/-- ITS FALSE NEIGHBOUR: 'it returns false'. Refute it at one input. -/
def registerConvictsWrong : ChangeSpec := { name := "registerConvicts", fn := fun _ => fun
  | [d1, d2, d3, d4, d5, d6] => { results := [.lit (.bool false)], args := [d1, d2, d3, d4, d5, d6] }
  | _ => none }
def RegisterConvictsWrongFalsely : Prop := registerConvictsRow.holds Tryz.pinned (OpenSpec.ofChange registerConvictsWrong)

/-- 'dialtonelaw18.RegisterHeads': WHATEVER THE INPUT: true; the input reads as it did. -/
def registerHeadsSpec : ChangeSpec := { name := "registerHeads", fn := fun _ => fun
  | [d1, d2, d3, d4, d5, d6, d7] => { results := [.lit (.bool true)], args := [d1, d2, d3, d4, d5, d6, d7] }
  | _ => none }
def registerHeadsRow : OpenClaim := { program := "ytinfpbkbnhcifaagreatdoor", sum := "6b55b3e88a65f4995756a2b58c63562e086694e6873897bd24c85e62a2196ca6", func := "dialtone/dialtonelaw18.RegisterHeads", spec := "registerHeads", inPlace := ["internal/abi.NoEscape", "internal/bytealg.MakeNoZero"], unfollowed := true, recurses := true, named := ["dialtone/digest.round"], apart := false, laid := [("dialtone/digest.round", laid_dialtone_digest_round)] }
def RegisterHeadsSaid : Prop := registerHeadsRow.holds Tryz.pinned (OpenSpec.ofChange registerHeadsSpec)

/-- ITS FALSE NEIGHBOUR: 'it returns false'. Refute it at one input. -/
def registerHeadsWrong : ChangeSpec := { name := "registerHeads", fn := fun _ => fun
  | [d1, d2, d3, d4, d5, d6, d7] => { results := [.lit (.bool false)], args := [d1, d2, d3, d4, d5, d6, d7] }
  | _ => none }
def RegisterHeadsWrongFalsely : Prop := registerHeadsRow.holds Tryz.pinned (OpenSpec.ofChange registerHeadsWrong)

/-- 'dialtonelaw18.RegisterJoins': WHATEVER THE INPUT: true; the input reads as it did. -/
def registerJoinsSpec : ChangeSpec := { name := "registerJoins", fn := fun _ => fun
  | [d1, d2, d3, d4, d5] => { results := [.lit (.bool true)], args := [d1, d2, d3, d4, d5] }
  | _ => none }
def registerJoinsRow : OpenClaim := { program := "ytinfpbkbnhcifaagreatdoor", sum := "6b55b3e88a65f4995756a2b58c63562e086694e6873897bd24c85e62a2196ca6", func := "dialtone/dialtonelaw18.RegisterJoins", spec := "registerJoins", inPlace := ["internal/abi.NoEscape", "internal/bytealg.MakeNoZero"], unfollowed := true, recurses := true, named := ["dialtone/digest.round"], apart := false, laid := [("dialtone/digest.round", laid_dialtone_digest_round)] }
def RegisterJoinsSaid : Prop := registerJoinsRow.holds Tryz.pinned (OpenSpec.ofChange registerJoinsSpec)

/-- ITS FALSE NEIGHBOUR: 'it returns false'. Refute it at one input. -/
def registerJoinsWrong : ChangeSpec := { name := "registerJoins", fn := fun _ => fun
  | [d1, d2, d3, d4, d5] => { results := [.lit (.bool false)], args := [d1, d2, d3, d4, d5] }
  | _ => none }
def RegisterJoinsWrongFalsely : Prop := registerJoinsRow.holds Tryz.pinned (OpenSpec.ofChange registerJoinsWrong)

/-- 'dialtonelaw18.RegisterMatchesReference': WHATEVER THE INPUT: true; the input reads as it did. -/
def registerMatchesReferenceSpec : ChangeSpec := { name := "registerMatchesReference", fn := fun _ => fun
  | [d1, d2, d3, d4, d5, d6, d7, d8, d9, d10] => { results := [.lit (.bool true)], args := [d1, d2, d3, d4, d5, d6, d7, d8, d9, d10] }
  | _ => none }
def registerMatchesReferenceRow : OpenClaim := { program := "ytinfpbkbnhcifaagreatdoor", sum := "6b55b3e88a65f4995756a2b58c63562e086694e6873897bd24c85e62a2196ca6", func := "dialtone/dialtonelaw18.RegisterMatchesReference", spec := "registerMatchesReference", inPlace := ["internal/abi.NoEscape", "internal/bytealg.MakeNoZero"], unfollowed := true, recurses := true, named := ["dialtone/digest.round"], apart := false, laid := [("dialtone/digest.round", laid_dialtone_digest_round)] }
def RegisterMatchesReferenceSaid : Prop := registerMatchesReferenceRow.holds Tryz.pinned (OpenSpec.ofChange registerMatchesReferenceSpec)

/-- ITS FALSE NEIGHBOUR: 'it returns false'. Refute it at one input. -/
def registerMatchesReferenceWrong : ChangeSpec := { name := "registerMatchesReference", fn := fun _ => fun
  | [d1, d2, d3, d4, d5, d6, d7, d8, d9, d10] => { results := [.lit (.bool false)], args := [d1, d2, d3, d4, d5, d6, d7, d8, d9, d10] }
  | _ => none }
def RegisterMatchesReferenceWrongFalsely : Prop := registerMatchesReferenceRow.holds Tryz.pinned (OpenSpec.ofChange registerMatchesReferenceWrong)

/-- 'dialtonelaw18.RegisterAppends': WHATEVER THE INPUT: true; the input reads as it did. -/
def registerAppendsSpec : ChangeSpec := { name := "registerAppends", fn := fun _ => fun
  | [d1, d2, d3, d4] => { results := [.lit (.bool true)], args := [d1, d2, d3, d4] }
  | _ => none }
def registerAppendsRow : OpenClaim := { program := "ytinfpbkbnhcifaagreatdoor", sum := "6b55b3e88a65f4995756a2b58c63562e086694e6873897bd24c85e62a2196ca6", func := "dialtone/dialtonelaw18.RegisterAppends", spec := "registerAppends", inPlace := ["internal/abi.NoEscape", "internal/bytealg.MakeNoZero"], unfollowed := true, recurses := true, named := ["dialtone/digest.round"], apart := false, laid := [("dialtone/digest.round", laid_dialtone_digest_round)] }
def RegisterAppendsSaid : Prop := registerAppendsRow.holds Tryz.pinned (OpenSpec.ofChange registerAppendsSpec)

/-- ITS FALSE NEIGHBOUR: 'it returns false'. Refute it at one input. -/
def registerAppendsWrong : ChangeSpec := { name := "registerAppends", fn := fun _ => fun
  | [d1, d2, d3, d4] => { results := [.lit (.bool false)], args := [d1, d2, d3, d4] }
  | _ => none }
def RegisterAppendsWrongFalsely : Prop := registerAppendsRow.holds Tryz.pinned (OpenSpec.ofChange registerAppendsWrong)

/- THE SECOND FORM. 'bulk': how many values and letters a reading holds, each counted each time it is reached (what is shared counts as often as it is met; a slice's spare places count too). A statement '..UptoSaid' is the law's where the arguments, and the package variables that the reading takes, are together of bulk at most 1048576: NARROWER than '..Said'. Prove '..Said' where nothing that the law and all that it calls make is longer than what came in: it says more and counts as full. Else prove '..UptoSaid'. A law counts once. -/
mutual
def uptoBulk {H : Type} : DataW H → Nat
  | .lit (.string bytes) => bytes.length + 1
  | .lit _ => 1
  | .nil => 1
  | .ptr d => uptoBulk d + 1
  | .slice elems spare => uptoBulkAll elems + uptoBulkAll spare + 1
  | .agg parts => uptoBulkAll parts + 1
  | .iface _ d => uptoBulk d + 1
  | .map entries => uptoBulkEntries entries + 1
  | .held _ => 1
def uptoBulkAll {H : Type} : List (DataW H) → Nat
  | [] => 0
  | d :: r => uptoBulk d + uptoBulkAll r
def uptoBulkEntries {H : Type} : List (Lit × DataW H) → Nat
  | [] => 0
  | x :: r => uptoBulkEntry x + uptoBulkEntries r
def uptoBulkEntry {H : Type} : Lit × DataW H → Nat
  | (.string bytes, d) => bytes.length + uptoBulk d + 1
  | (_, d) => uptoBulk d + 1
 end
def uptoSmall : (H : Type) → List (DataW H) → Bool := fun _ ds => decide (uptoBulkAll ds ≤ 1048576)
def OpenSpec.upto (s : _root_.Go.ChangeSpec) : _root_.Go.OpenSpec := { _root_.Go.OpenSpec.ofChange s with cond := some uptoSmall }

/-- 'dialtonelaw18.RegisterPartsMatchReference', WHERE WHAT IT READS IS OF BULK AT MOST 1048576: true; the input reads as it did. -/
def registerPartsMatchReferenceUptoRow : OpenClaim := { program := "ytinfpbkbnhcifaagreatdoor", sum := "6b55b3e88a65f4995756a2b58c63562e086694e6873897bd24c85e62a2196ca6", func := "dialtone/dialtonelaw18.RegisterPartsMatchReference", spec := "registerPartsMatchReference", inPlace := ["internal/abi.NoEscape", "internal/bytealg.MakeNoZero"], unfollowed := true, recurses := true, named := ["dialtone/digest.round"], apart := false, laid := [("dialtone/digest.round", laid_dialtone_digest_round)], narrowed := true }
def RegisterPartsMatchReferenceUptoSaid : Prop := registerPartsMatchReferenceUptoRow.holds Tryz.pinned (OpenSpec.upto registerPartsMatchReferenceSpec)

/-- 'dialtonelaw18.RegisterShows', WHERE WHAT IT READS IS OF BULK AT MOST 1048576: true; the input reads as it did. -/
def registerShowsUptoRow : OpenClaim := { program := "ytinfpbkbnhcifaagreatdoor", sum := "6b55b3e88a65f4995756a2b58c63562e086694e6873897bd24c85e62a2196ca6", func := "dialtone/dialtonelaw18.RegisterShows", spec := "registerShows", inPlace := ["internal/abi.NoEscape", "internal/bytealg.MakeNoZero"], unfollowed := true, recurses := true, named := ["dialtone/digest.round"], apart := false, laid := [("dialtone/digest.round", laid_dialtone_digest_round)], narrowed := true }
def RegisterShowsUptoSaid : Prop := registerShowsUptoRow.holds Tryz.pinned (OpenSpec.upto registerShowsSpec)

/-- 'dialtonelaw18.RegisterGrows', WHERE WHAT IT READS IS OF BULK AT MOST 1048576: true; the input reads as it did. -/
def registerGrowsUptoRow : OpenClaim := { program := "ytinfpbkbnhcifaagreatdoor", sum := "6b55b3e88a65f4995756a2b58c63562e086694e6873897bd24c85e62a2196ca6", func := "dialtone/dialtonelaw18.RegisterGrows", spec := "registerGrows", inPlace := ["internal/abi.NoEscape", "internal/bytealg.MakeNoZero"], unfollowed := true, recurses := true, named := ["dialtone/digest.round"], apart := false, laid := [("dialtone/digest.round", laid_dialtone_digest_round)], narrowed := true }
def RegisterGrowsUptoSaid : Prop := registerGrowsUptoRow.holds Tryz.pinned (OpenSpec.upto registerGrowsSpec)

/-- 'dialtonelaw18.RegisterHonest', WHERE WHAT IT READS IS OF BULK AT MOST 1048576: true; the input reads as it did. -/
def registerHonestUptoRow : OpenClaim := { program := "ytinfpbkbnhcifaagreatdoor", sum := "6b55b3e88a65f4995756a2b58c63562e086694e6873897bd24c85e62a2196ca6", func := "dialtone/dialtonelaw18.RegisterHonest", spec := "registerHonest", inPlace := ["internal/abi.NoEscape", "internal/bytealg.MakeNoZero"], unfollowed := true, recurses := true, named := ["dialtone/digest.round"], apart := false, laid := [("dialtone/digest.round", laid_dialtone_digest_round)], narrowed := true }
def RegisterHonestUptoSaid : Prop := registerHonestUptoRow.holds Tryz.pinned (OpenSpec.upto registerHonestSpec)

/-- 'dialtonelaw18.RegisterConvicts', WHERE WHAT IT READS IS OF BULK AT MOST 1048576: true; the input reads as it did. -/
def registerConvictsUptoRow : OpenClaim := { program := "ytinfpbkbnhcifaagreatdoor", sum := "6b55b3e88a65f4995756a2b58c63562e086694e6873897bd24c85e62a2196ca6", func := "dialtone/dialtonelaw18.RegisterConvicts", spec := "registerConvicts", inPlace := ["internal/abi.NoEscape", "internal/bytealg.MakeNoZero"], unfollowed := true, recurses := true, named := ["dialtone/digest.round"], apart := false, laid := [("dialtone/digest.round", laid_dialtone_digest_round)], narrowed := true }
def RegisterConvictsUptoSaid : Prop := registerConvictsUptoRow.holds Tryz.pinned (OpenSpec.upto registerConvictsSpec)

/-- 'dialtonelaw18.RegisterHeads', WHERE WHAT IT READS IS OF BULK AT MOST 1048576: true; the input reads as it did. -/
def registerHeadsUptoRow : OpenClaim := { program := "ytinfpbkbnhcifaagreatdoor", sum := "6b55b3e88a65f4995756a2b58c63562e086694e6873897bd24c85e62a2196ca6", func := "dialtone/dialtonelaw18.RegisterHeads", spec := "registerHeads", inPlace := ["internal/abi.NoEscape", "internal/bytealg.MakeNoZero"], unfollowed := true, recurses := true, named := ["dialtone/digest.round"], apart := false, laid := [("dialtone/digest.round", laid_dialtone_digest_round)], narrowed := true }
def RegisterHeadsUptoSaid : Prop := registerHeadsUptoRow.holds Tryz.pinned (OpenSpec.upto registerHeadsSpec)

/-- 'dialtonelaw18.RegisterJoins', WHERE WHAT IT READS IS OF BULK AT MOST 1048576: true; the input reads as it did. -/
def registerJoinsUptoRow : OpenClaim := { program := "ytinfpbkbnhcifaagreatdoor", sum := "6b55b3e88a65f4995756a2b58c63562e086694e6873897bd24c85e62a2196ca6", func := "dialtone/dialtonelaw18.RegisterJoins", spec := "registerJoins", inPlace := ["internal/abi.NoEscape", "internal/bytealg.MakeNoZero"], unfollowed := true, recurses := true, named := ["dialtone/digest.round"], apart := false, laid := [("dialtone/digest.round", laid_dialtone_digest_round)], narrowed := true }
def RegisterJoinsUptoSaid : Prop := registerJoinsUptoRow.holds Tryz.pinned (OpenSpec.upto registerJoinsSpec)

/-- 'dialtonelaw18.RegisterMatchesReference', WHERE WHAT IT READS IS OF BULK AT MOST 1048576: true; the input reads as it did. -/
def registerMatchesReferenceUptoRow : OpenClaim := { program := "ytinfpbkbnhcifaagreatdoor", sum := "6b55b3e88a65f4995756a2b58c63562e086694e6873897bd24c85e62a2196ca6", func := "dialtone/dialtonelaw18.RegisterMatchesReference", spec := "registerMatchesReference", inPlace := ["internal/abi.NoEscape", "internal/bytealg.MakeNoZero"], unfollowed := true, recurses := true, named := ["dialtone/digest.round"], apart := false, laid := [("dialtone/digest.round", laid_dialtone_digest_round)], narrowed := true }
def RegisterMatchesReferenceUptoSaid : Prop := registerMatchesReferenceUptoRow.holds Tryz.pinned (OpenSpec.upto registerMatchesReferenceSpec)

/-- 'dialtonelaw18.RegisterAppends', WHERE WHAT IT READS IS OF BULK AT MOST 1048576: true; the input reads as it did. -/
def registerAppendsUptoRow : OpenClaim := { program := "ytinfpbkbnhcifaagreatdoor", sum := "6b55b3e88a65f4995756a2b58c63562e086694e6873897bd24c85e62a2196ca6", func := "dialtone/dialtonelaw18.RegisterAppends", spec := "registerAppends", inPlace := ["internal/abi.NoEscape", "internal/bytealg.MakeNoZero"], unfollowed := true, recurses := true, named := ["dialtone/digest.round"], apart := false, laid := [("dialtone/digest.round", laid_dialtone_digest_round)], narrowed := true }
def RegisterAppendsUptoSaid : Prop := registerAppendsUptoRow.holds Tryz.pinned (OpenSpec.upto registerAppendsSpec)

end Rows
end Go.Proofs.YtinfpbkbnhcifaaGreatDoor
