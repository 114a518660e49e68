/-
  NARROWER THAN 'FOR EVERY INPUT', by the rows' own cells (each row's printed sentence says how): TopBudgets: laid · FrameEncodes: laid · FrameCosts: laid · FrameDecodes: laid · FrameReturns: laid · FrameRefuses: laid · FrameBefore: laid · FrameSticks: laid · FrameSplits: laid · FrameFits: laid · FrameJoins: laid · FrameInverts: laid.
  DERIVED. THE GIVEN ROWS OF THIS SEAT. 12 by the template 'for every input the law returns true; each argument reads behind the call as it read before'; 0 by the template 'total and deterministic' (their statements: YtggiinfeiilogaaDoorTotals.lean).
  GIVEN WITH THE SEED: the statements are not yours to turn. If you find one false, say at which input.
  Laid BY PROGRAM, IN A SANDBOX (cutbox-rows.mjs): the forced cells as the released guide's own fill.sh prints them over the translation b0c428423a9e9f2f… (all of the seat's roots in one cut). By AI agents, Wed Nov 11 2026. No macro, syntax, notation, axiom, sorry.
-/
import Derived.Test.YtggiinfeiilogaaDoorChecked
import GoSem.Claim
import GoSem.ClaimJoined
import GoSem.ClaimMapViews
import Derived.JoinedTies
import Derived.KernelRfl
namespace Go.Proofs.YtggiinfeiilogaaDoor
/- THE CELL 'sum', in the pinned program and in every row, IS THE sha256 OF THE DUMP (.gsa) THAT YtggiinfeiilogaaDoorProg.lean LOADS. Nothing in Lean hashes anything: it is a label: what it is worth is what the hold of that sum in a sandbox is worth. -/
noncomputable def Tryd.pinned : Pinned := { name := "ytggiinfeiilogaadoor", sum := "b0c428423a9e9f2f44d6e82644ded20de53fa9a53866386372fad2b468727ad5", checked := Tryd.checked }
namespace Rows
def none {H : Type} : Left H := { results := [], args := [] }

/- WHAT THE LISTED PACKAGE-LEVEL VARIABLES READ AS WHEN THE CALL BEGINS. Each datum BY PROGRAM (the guide's laid-datum.mjs) off the statement by which the dump's own 'gosem.cut.vars' lays the variable. In a bare row this is a premise. The card (YtggiinfeiilogaaDoorCards.lean) ties it to the program's text. -/
def laid_kinkeep_sha256_initial {H : Type} : DataW H := .agg [.lit (.int .u32 1779033703), .lit (.int .u32 3144134277), .lit (.int .u32 1013904242), .lit (.int .u32 2773480762), .lit (.int .u32 1359893119), .lit (.int .u32 2600822924), .lit (.int .u32 528734635), .lit (.int .u32 1541459225)]
def laid_kinkeep_sha256_constants {H : Type} : DataW H := .agg [.lit (.int .u32 1116352408), .lit (.int .u32 1899447441), .lit (.int .u32 3049323471), .lit (.int .u32 3921009573), .lit (.int .u32 961987163), .lit (.int .u32 1508970993), .lit (.int .u32 2453635748), .lit (.int .u32 2870763221), .lit (.int .u32 3624381080), .lit (.int .u32 310598401), .lit (.int .u32 607225278), .lit (.int .u32 1426881987), .lit (.int .u32 1925078388), .lit (.int .u32 2162078206), .lit (.int .u32 2614888103), .lit (.int .u32 3248222580), .lit (.int .u32 3835390401), .lit (.int .u32 4022224774), .lit (.int .u32 264347078), .lit (.int .u32 604807628), .lit (.int .u32 770255983), .lit (.int .u32 1249150122), .lit (.int .u32 1555081692), .lit (.int .u32 1996064986), .lit (.int .u32 2554220882), .lit (.int .u32 2821834349), .lit (.int .u32 2952996808), .lit (.int .u32 3210313671), .lit (.int .u32 3336571891), .lit (.int .u32 3584528711), .lit (.int .u32 113926993), .lit (.int .u32 338241895), .lit (.int .u32 666307205), .lit (.int .u32 773529912), .lit (.int .u32 1294757372), .lit (.int .u32 1396182291), .lit (.int .u32 1695183700), .lit (.int .u32 1986661051), .lit (.int .u32 2177026350), .lit (.int .u32 2456956037), .lit (.int .u32 2730485921), .lit (.int .u32 2820302411), .lit (.int .u32 3259730800), .lit (.int .u32 3345764771), .lit (.int .u32 3516065817), .lit (.int .u32 3600352804), .lit (.int .u32 4094571909), .lit (.int .u32 275423344), .lit (.int .u32 430227734), .lit (.int .u32 506948616), .lit (.int .u32 659060556), .lit (.int .u32 883997877), .lit (.int .u32 958139571), .lit (.int .u32 1322822218), .lit (.int .u32 1537002063), .lit (.int .u32 1747873779), .lit (.int .u32 1955562222), .lit (.int .u32 2024104815), .lit (.int .u32 2227730452), .lit (.int .u32 2361852424), .lit (.int .u32 2428436474), .lit (.int .u32 2756734187), .lit (.int .u32 3204031479), .lit (.int .u32 3329325298)]

/-- 'kinkeeptop.TopBudgets': WHATEVER THE INPUT: true; the input reads as it did. -/
def topBudgetsSpec : ChangeSpec := { name := "topBudgets", fn := fun _ => fun
  | [d1, d2, d3] => { results := [.lit (.bool true)], args := [d1, d2, d3] }
  | _ => none }
def topBudgetsRow : OpenClaim := { program := "ytggiinfeiilogaadoor", sum := "b0c428423a9e9f2f44d6e82644ded20de53fa9a53866386372fad2b468727ad5", func := "kinkeep/kinkeeptop.TopBudgets", spec := "topBudgets", unfollowed := true, recurses := true, named := ["kinkeep/sha256.initial", "kinkeep/sha256.constants"], apart := false, laid := [("kinkeep/sha256.initial", laid_kinkeep_sha256_initial), ("kinkeep/sha256.constants", laid_kinkeep_sha256_constants)] }
def TopBudgetsSaid : Prop := topBudgetsRow.holds Tryd.pinned (OpenSpec.ofChange topBudgetsSpec)

/-- ITS FALSE NEIGHBOUR: 'it returns false'. Refute it at one input. -/
def topBudgetsWrong : ChangeSpec := { name := "topBudgets", fn := fun _ => fun
  | [d1, d2, d3] => { results := [.lit (.bool false)], args := [d1, d2, d3] }
  | _ => none }
def TopBudgetsWrongFalsely : Prop := topBudgetsRow.holds Tryd.pinned (OpenSpec.ofChange topBudgetsWrong)

/-- 'kinkeeplaw37.FrameEncodes': WHATEVER THE INPUT: true; the input reads as it did. -/
def frameEncodesSpec : ChangeSpec := { name := "frameEncodes", fn := fun _ => fun
  | [d] => { results := [.lit (.bool true)], args := [d] }
  | _ => none }
def frameEncodesRow : OpenClaim := { program := "ytggiinfeiilogaadoor", sum := "b0c428423a9e9f2f44d6e82644ded20de53fa9a53866386372fad2b468727ad5", func := "kinkeep/kinkeeplaw37.FrameEncodes", spec := "frameEncodes", unfollowed := true, recurses := true, named := ["kinkeep/sha256.initial", "kinkeep/sha256.constants"], apart := false, laid := [("kinkeep/sha256.initial", laid_kinkeep_sha256_initial), ("kinkeep/sha256.constants", laid_kinkeep_sha256_constants)] }
def FrameEncodesSaid : Prop := frameEncodesRow.holds Tryd.pinned (OpenSpec.ofChange frameEncodesSpec)

/-- ITS FALSE NEIGHBOUR: 'it returns false'. Refute it at one input. -/
def frameEncodesWrong : ChangeSpec := { name := "frameEncodes", fn := fun _ => fun
  | [d] => { results := [.lit (.bool false)], args := [d] }
  | _ => none }
def FrameEncodesWrongFalsely : Prop := frameEncodesRow.holds Tryd.pinned (OpenSpec.ofChange frameEncodesWrong)

/-- 'kinkeeplaw37.FrameCosts': WHATEVER THE INPUT: true; the input reads as it did. -/
def frameCostsSpec : ChangeSpec := { name := "frameCosts", fn := fun _ => fun
  | [d] => { results := [.lit (.bool true)], args := [d] }
  | _ => none }
def frameCostsRow : OpenClaim := { program := "ytggiinfeiilogaadoor", sum := "b0c428423a9e9f2f44d6e82644ded20de53fa9a53866386372fad2b468727ad5", func := "kinkeep/kinkeeplaw37.FrameCosts", spec := "frameCosts", unfollowed := true, recurses := true, named := ["kinkeep/sha256.initial", "kinkeep/sha256.constants"], apart := false, laid := [("kinkeep/sha256.initial", laid_kinkeep_sha256_initial), ("kinkeep/sha256.constants", laid_kinkeep_sha256_constants)] }
def FrameCostsSaid : Prop := frameCostsRow.holds Tryd.pinned (OpenSpec.ofChange frameCostsSpec)

/-- ITS FALSE NEIGHBOUR: 'it returns false'. Refute it at one input. -/
def frameCostsWrong : ChangeSpec := { name := "frameCosts", fn := fun _ => fun
  | [d] => { results := [.lit (.bool false)], args := [d] }
  | _ => none }
def FrameCostsWrongFalsely : Prop := frameCostsRow.holds Tryd.pinned (OpenSpec.ofChange frameCostsWrong)

/-- 'kinkeeplaw37.FrameDecodes': WHATEVER THE INPUT: true; the input reads as it did. -/
def frameDecodesSpec : ChangeSpec := { name := "frameDecodes", fn := fun _ => fun
  | [d] => { results := [.lit (.bool true)], args := [d] }
  | _ => none }
def frameDecodesRow : OpenClaim := { program := "ytggiinfeiilogaadoor", sum := "b0c428423a9e9f2f44d6e82644ded20de53fa9a53866386372fad2b468727ad5", func := "kinkeep/kinkeeplaw37.FrameDecodes", spec := "frameDecodes", unfollowed := true, recurses := true, named := ["kinkeep/sha256.initial", "kinkeep/sha256.constants"], apart := false, laid := [("kinkeep/sha256.initial", laid_kinkeep_sha256_initial), ("kinkeep/sha256.constants", laid_kinkeep_sha256_constants)] }
def FrameDecodesSaid : Prop := frameDecodesRow.holds Tryd.pinned (OpenSpec.ofChange frameDecodesSpec)

/-- ITS FALSE NEIGHBOUR: 'it returns false'. Refute it at one input. -/
def frameDecodesWrong : ChangeSpec := { name := "frameDecodes", fn := fun _ => fun
  | [d] => { results := [.lit (.bool false)], args := [d] }
  | _ => none }
def FrameDecodesWrongFalsely : Prop := frameDecodesRow.holds Tryd.pinned (OpenSpec.ofChange frameDecodesWrong)

/-- 'kinkeeplaw37.FrameReturns': WHATEVER THE INPUT: true; the input reads as it did. -/
def frameReturnsSpec : ChangeSpec := { name := "frameReturns", fn := fun _ => fun
  | [d1, d2] => { results := [.lit (.bool true)], args := [d1, d2] }
  | _ => none }
def frameReturnsRow : OpenClaim := { program := "ytggiinfeiilogaadoor", sum := "b0c428423a9e9f2f44d6e82644ded20de53fa9a53866386372fad2b468727ad5", func := "kinkeep/kinkeeplaw37.FrameReturns", spec := "frameReturns", unfollowed := true, recurses := true, named := ["kinkeep/sha256.initial", "kinkeep/sha256.constants"], apart := false, laid := [("kinkeep/sha256.initial", laid_kinkeep_sha256_initial), ("kinkeep/sha256.constants", laid_kinkeep_sha256_constants)] }
def FrameReturnsSaid : Prop := frameReturnsRow.holds Tryd.pinned (OpenSpec.ofChange frameReturnsSpec)

/-- ITS FALSE NEIGHBOUR: 'it returns false'. Refute it at one input. -/
def frameReturnsWrong : ChangeSpec := { name := "frameReturns", fn := fun _ => fun
  | [d1, d2] => { results := [.lit (.bool false)], args := [d1, d2] }
  | _ => none }
def FrameReturnsWrongFalsely : Prop := frameReturnsRow.holds Tryd.pinned (OpenSpec.ofChange frameReturnsWrong)

/-- 'kinkeeplaw37.FrameRefuses': WHATEVER THE INPUT: true; the input reads as it did. -/
def frameRefusesSpec : ChangeSpec := { name := "frameRefuses", fn := fun _ => fun
  | [d1, d2, d3, d4] => { results := [.lit (.bool true)], args := [d1, d2, d3, d4] }
  | _ => none }
def frameRefusesRow : OpenClaim := { program := "ytggiinfeiilogaadoor", sum := "b0c428423a9e9f2f44d6e82644ded20de53fa9a53866386372fad2b468727ad5", func := "kinkeep/kinkeeplaw37.FrameRefuses", spec := "frameRefuses", unfollowed := true, recurses := true, named := ["kinkeep/sha256.initial", "kinkeep/sha256.constants"], apart := false, laid := [("kinkeep/sha256.initial", laid_kinkeep_sha256_initial), ("kinkeep/sha256.constants", laid_kinkeep_sha256_constants)] }
def FrameRefusesSaid : Prop := frameRefusesRow.holds Tryd.pinned (OpenSpec.ofChange frameRefusesSpec)

/-- ITS FALSE NEIGHBOUR: 'it returns false'. Refute it at one input. -/
def frameRefusesWrong : ChangeSpec := { name := "frameRefuses", fn := fun _ => fun
  | [d1, d2, d3, d4] => { results := [.lit (.bool false)], args := [d1, d2, d3, d4] }
  | _ => none }
def FrameRefusesWrongFalsely : Prop := frameRefusesRow.holds Tryd.pinned (OpenSpec.ofChange frameRefusesWrong)

/-- 'kinkeeplaw37.FrameBefore': WHATEVER THE INPUT: true; the input reads as it did. -/
def frameBeforeSpec : ChangeSpec := { name := "frameBefore", fn := fun _ => fun
  | [d1, d2, d3] => { results := [.lit (.bool true)], args := [d1, d2, d3] }
  | _ => none }
def frameBeforeRow : OpenClaim := { program := "ytggiinfeiilogaadoor", sum := "b0c428423a9e9f2f44d6e82644ded20de53fa9a53866386372fad2b468727ad5", func := "kinkeep/kinkeeplaw37.FrameBefore", spec := "frameBefore", unfollowed := true, recurses := true, named := ["kinkeep/sha256.initial", "kinkeep/sha256.constants"], apart := false, laid := [("kinkeep/sha256.initial", laid_kinkeep_sha256_initial), ("kinkeep/sha256.constants", laid_kinkeep_sha256_constants)] }
def FrameBeforeSaid : Prop := frameBeforeRow.holds Tryd.pinned (OpenSpec.ofChange frameBeforeSpec)

/-- ITS FALSE NEIGHBOUR: 'it returns false'. Refute it at one input. -/
def frameBeforeWrong : ChangeSpec := { name := "frameBefore", fn := fun _ => fun
  | [d1, d2, d3] => { results := [.lit (.bool false)], args := [d1, d2, d3] }
  | _ => none }
def FrameBeforeWrongFalsely : Prop := frameBeforeRow.holds Tryd.pinned (OpenSpec.ofChange frameBeforeWrong)

/-- 'kinkeeplaw37.FrameSticks': WHATEVER THE INPUT: true; the input reads as it did. -/
def frameSticksSpec : ChangeSpec := { name := "frameSticks", fn := fun _ => fun
  | [d1, d2] => { results := [.lit (.bool true)], args := [d1, d2] }
  | _ => none }
def frameSticksRow : OpenClaim := { program := "ytggiinfeiilogaadoor", sum := "b0c428423a9e9f2f44d6e82644ded20de53fa9a53866386372fad2b468727ad5", func := "kinkeep/kinkeeplaw37.FrameSticks", spec := "frameSticks", unfollowed := true, recurses := true, named := ["kinkeep/sha256.initial", "kinkeep/sha256.constants"], apart := false, laid := [("kinkeep/sha256.initial", laid_kinkeep_sha256_initial), ("kinkeep/sha256.constants", laid_kinkeep_sha256_constants)] }
def FrameSticksSaid : Prop := frameSticksRow.holds Tryd.pinned (OpenSpec.ofChange frameSticksSpec)

/-- ITS FALSE NEIGHBOUR: 'it returns false'. Refute it at one input. -/
def frameSticksWrong : ChangeSpec := { name := "frameSticks", fn := fun _ => fun
  | [d1, d2] => { results := [.lit (.bool false)], args := [d1, d2] }
  | _ => none }
def FrameSticksWrongFalsely : Prop := frameSticksRow.holds Tryd.pinned (OpenSpec.ofChange frameSticksWrong)

/-- 'kinkeeplaw37.FrameSplits': WHATEVER THE INPUT: true; the input reads as it did. -/
def frameSplitsSpec : ChangeSpec := { name := "frameSplits", fn := fun _ => fun
  | [d1, d2, d3] => { results := [.lit (.bool true)], args := [d1, d2, d3] }
  | _ => none }
def frameSplitsRow : OpenClaim := { program := "ytggiinfeiilogaadoor", sum := "b0c428423a9e9f2f44d6e82644ded20de53fa9a53866386372fad2b468727ad5", func := "kinkeep/kinkeeplaw37.FrameSplits", spec := "frameSplits", unfollowed := true, recurses := true, named := ["kinkeep/sha256.initial", "kinkeep/sha256.constants"], apart := false, laid := [("kinkeep/sha256.initial", laid_kinkeep_sha256_initial), ("kinkeep/sha256.constants", laid_kinkeep_sha256_constants)] }
def FrameSplitsSaid : Prop := frameSplitsRow.holds Tryd.pinned (OpenSpec.ofChange frameSplitsSpec)

/-- ITS FALSE NEIGHBOUR: 'it returns false'. Refute it at one input. -/
def frameSplitsWrong : ChangeSpec := { name := "frameSplits", fn := fun _ => fun
  | [d1, d2, d3] => { results := [.lit (.bool false)], args := [d1, d2, d3] }
  | _ => none }
def FrameSplitsWrongFalsely : Prop := frameSplitsRow.holds Tryd.pinned (OpenSpec.ofChange frameSplitsWrong)

/-- 'kinkeeplaw37.FrameFits': WHATEVER THE INPUT: true; the input reads as it did. -/
def frameFitsSpec : ChangeSpec := { name := "frameFits", fn := fun _ => fun
  | [d1, d2] => { results := [.lit (.bool true)], args := [d1, d2] }
  | _ => none }
def frameFitsRow : OpenClaim := { program := "ytggiinfeiilogaadoor", sum := "b0c428423a9e9f2f44d6e82644ded20de53fa9a53866386372fad2b468727ad5", func := "kinkeep/kinkeeplaw37.FrameFits", spec := "frameFits", unfollowed := true, recurses := true, named := ["kinkeep/sha256.initial", "kinkeep/sha256.constants"], apart := false, laid := [("kinkeep/sha256.initial", laid_kinkeep_sha256_initial), ("kinkeep/sha256.constants", laid_kinkeep_sha256_constants)] }
def FrameFitsSaid : Prop := frameFitsRow.holds Tryd.pinned (OpenSpec.ofChange frameFitsSpec)

/-- ITS FALSE NEIGHBOUR: 'it returns false'. Refute it at one input. -/
def frameFitsWrong : ChangeSpec := { name := "frameFits", fn := fun _ => fun
  | [d1, d2] => { results := [.lit (.bool false)], args := [d1, d2] }
  | _ => none }
def FrameFitsWrongFalsely : Prop := frameFitsRow.holds Tryd.pinned (OpenSpec.ofChange frameFitsWrong)

/-- 'kinkeeplaw37.FrameJoins': WHATEVER THE INPUT: true; the input reads as it did. -/
def frameJoinsSpec : ChangeSpec := { name := "frameJoins", fn := fun _ => fun
  | [d] => { results := [.lit (.bool true)], args := [d] }
  | _ => none }
def frameJoinsRow : OpenClaim := { program := "ytggiinfeiilogaadoor", sum := "b0c428423a9e9f2f44d6e82644ded20de53fa9a53866386372fad2b468727ad5", func := "kinkeep/kinkeeplaw37.FrameJoins", spec := "frameJoins", unfollowed := true, recurses := true, named := ["kinkeep/sha256.initial", "kinkeep/sha256.constants"], apart := false, laid := [("kinkeep/sha256.initial", laid_kinkeep_sha256_initial), ("kinkeep/sha256.constants", laid_kinkeep_sha256_constants)] }
def FrameJoinsSaid : Prop := frameJoinsRow.holds Tryd.pinned (OpenSpec.ofChange frameJoinsSpec)

/-- ITS FALSE NEIGHBOUR: 'it returns false'. Refute it at one input. -/
def frameJoinsWrong : ChangeSpec := { name := "frameJoins", fn := fun _ => fun
  | [d] => { results := [.lit (.bool false)], args := [d] }
  | _ => none }
def FrameJoinsWrongFalsely : Prop := frameJoinsRow.holds Tryd.pinned (OpenSpec.ofChange frameJoinsWrong)

/-- 'kinkeeplaw37.FrameInverts': WHATEVER THE INPUT: true; the input reads as it did. -/
def frameInvertsSpec : ChangeSpec := { name := "frameInverts", fn := fun _ => fun
  | [d1, d2, d3] => { results := [.lit (.bool true)], args := [d1, d2, d3] }
  | _ => none }
def frameInvertsRow : OpenClaim := { program := "ytggiinfeiilogaadoor", sum := "b0c428423a9e9f2f44d6e82644ded20de53fa9a53866386372fad2b468727ad5", func := "kinkeep/kinkeeplaw37.FrameInverts", spec := "frameInverts", unfollowed := true, recurses := true, named := ["kinkeep/sha256.initial", "kinkeep/sha256.constants"], apart := false, laid := [("kinkeep/sha256.initial", laid_kinkeep_sha256_initial), ("kinkeep/sha256.constants", laid_kinkeep_sha256_constants)] }
def FrameInvertsSaid : Prop := frameInvertsRow.holds Tryd.pinned (OpenSpec.ofChange frameInvertsSpec)

/-- ITS FALSE NEIGHBOUR: 'it returns false'. Refute it at one input. -/
def frameInvertsWrong : ChangeSpec := { name := "frameInverts", fn := fun _ => fun
  | [d1, d2, d3] => { results := [.lit (.bool false)], args := [d1, d2, d3] }
  | _ => none }
def FrameInvertsWrongFalsely : Prop := frameInvertsRow.holds Tryd.pinned (OpenSpec.ofChange frameInvertsWrong)

/- THE SECOND FORM. 'bulk': how many values and letters a reading holds, each counted each time it is reached (what is shared counts as often as it is met; a slice's spare places count too). A statement '..UptoSaid' is the law's where the arguments, and the package variables that the reading takes, are together of bulk at most 1048576: NARROWER than '..Said'. Prove '..Said' where nothing that the law and all that it calls make is longer than what came in: it says more and counts as full. Else prove '..UptoSaid'. A law counts once. -/
mutual
def uptoBulk {H : Type} : DataW H → Nat
  | .lit (.string bytes) => bytes.length + 1
  | .lit _ => 1
  | .nil => 1
  | .ptr d => uptoBulk d + 1
  | .slice elems spare => uptoBulkAll elems + uptoBulkAll spare + 1
  | .agg parts => uptoBulkAll parts + 1
  | .iface _ d => uptoBulk d + 1
  | .map entries => uptoBulkEntries entries + 1
  | .held _ => 1
def uptoBulkAll {H : Type} : List (DataW H) → Nat
  | [] => 0
  | d :: r => uptoBulk d + uptoBulkAll r
def uptoBulkEntries {H : Type} : List (Lit × DataW H) → Nat
  | [] => 0
  | x :: r => uptoBulkEntry x + uptoBulkEntries r
def uptoBulkEntry {H : Type} : Lit × DataW H → Nat
  | (.string bytes, d) => bytes.length + uptoBulk d + 1
  | (_, d) => uptoBulk d + 1
 end
def uptoSmall : (H : Type) → List (DataW H) → Bool := fun _ ds => decide (uptoBulkAll ds ≤ 1048576)
def OpenSpec.upto (s : _root_.Go.ChangeSpec) : _root_.Go.OpenSpec := { _root_.Go.OpenSpec.ofChange s with cond := some uptoSmall }

/-- 'kinkeeptop.TopBudgets', WHERE WHAT IT READS IS OF BULK AT MOST 1048576: true; the input reads as it did. -/
def topBudgetsUptoRow : OpenClaim := { program := "ytggiinfeiilogaadoor", sum := "b0c428423a9e9f2f44d6e82644ded20de53fa9a53866386372fad2b468727ad5", func := "kinkeep/kinkeeptop.TopBudgets", spec := "topBudgets", unfollowed := true, recurses := true, named := ["kinkeep/sha256.initial", "kinkeep/sha256.constants"], apart := false, laid := [("kinkeep/sha256.initial", laid_kinkeep_sha256_initial), ("kinkeep/sha256.constants", laid_kinkeep_sha256_constants)], narrowed := true }
def TopBudgetsUptoSaid : Prop := topBudgetsUptoRow.holds Tryd.pinned (OpenSpec.upto topBudgetsSpec)

/-- 'kinkeeplaw37.FrameEncodes', WHERE WHAT IT READS IS OF BULK AT MOST 1048576: true; the input reads as it did. -/
def frameEncodesUptoRow : OpenClaim := { program := "ytggiinfeiilogaadoor", sum := "b0c428423a9e9f2f44d6e82644ded20de53fa9a53866386372fad2b468727ad5", func := "kinkeep/kinkeeplaw37.FrameEncodes", spec := "frameEncodes", unfollowed := true, recurses := true, named := ["kinkeep/sha256.initial", "kinkeep/sha256.constants"], apart := false, laid := [("kinkeep/sha256.initial", laid_kinkeep_sha256_initial), ("kinkeep/sha256.constants", laid_kinkeep_sha256_constants)], narrowed := true }
def FrameEncodesUptoSaid : Prop := frameEncodesUptoRow.holds Tryd.pinned (OpenSpec.upto frameEncodesSpec)

/-- 'kinkeeplaw37.FrameCosts', WHERE WHAT IT READS IS OF BULK AT MOST 1048576: true; the input reads as it did. -/
def frameCostsUptoRow : OpenClaim := { program := "ytggiinfeiilogaadoor", sum := "b0c428423a9e9f2f44d6e82644ded20de53fa9a53866386372fad2b468727ad5", func := "kinkeep/kinkeeplaw37.FrameCosts", spec := "frameCosts", unfollowed := true, recurses := true, named := ["kinkeep/sha256.initial", "kinkeep/sha256.constants"], apart := false, laid := [("kinkeep/sha256.initial", laid_kinkeep_sha256_initial), ("kinkeep/sha256.constants", laid_kinkeep_sha256_constants)], narrowed := true }
def FrameCostsUptoSaid : Prop := frameCostsUptoRow.holds Tryd.pinned (OpenSpec.upto frameCostsSpec)

/-- 'kinkeeplaw37.FrameDecodes', WHERE WHAT IT READS IS OF BULK AT MOST 1048576: true; the input reads as it did. -/
def frameDecodesUptoRow : OpenClaim := { program := "ytggiinfeiilogaadoor", sum := "b0c428423a9e9f2f44d6e82644ded20de53fa9a53866386372fad2b468727ad5", func := "kinkeep/kinkeeplaw37.FrameDecodes", spec := "frameDecodes", unfollowed := true, recurses := true, named := ["kinkeep/sha256.initial", "kinkeep/sha256.constants"], apart := false, laid := [("kinkeep/sha256.initial", laid_kinkeep_sha256_initial), ("kinkeep/sha256.constants", laid_kinkeep_sha256_constants)], narrowed := true }
def FrameDecodesUptoSaid : Prop := frameDecodesUptoRow.holds Tryd.pinned (OpenSpec.upto frameDecodesSpec)

/-- 'kinkeeplaw37.FrameReturns', WHERE WHAT IT READS IS OF BULK AT MOST 1048576: true; the input reads as it did. -/
def frameReturnsUptoRow : OpenClaim := { program := "ytggiinfeiilogaadoor", sum := "b0c428423a9e9f2f44d6e82644ded20de53fa9a53866386372fad2b468727ad5", func := "kinkeep/kinkeeplaw37.FrameReturns", spec := "frameReturns", unfollowed := true, recurses := true, named := ["kinkeep/sha256.initial", "kinkeep/sha256.constants"], apart := false, laid := [("kinkeep/sha256.initial", laid_kinkeep_sha256_initial), ("kinkeep/sha256.constants", laid_kinkeep_sha256_constants)], narrowed := true }
def FrameReturnsUptoSaid : Prop := frameReturnsUptoRow.holds Tryd.pinned (OpenSpec.upto frameReturnsSpec)

/-- 'kinkeeplaw37.FrameRefuses', WHERE WHAT IT READS IS OF BULK AT MOST 1048576: true; the input reads as it did. -/
def frameRefusesUptoRow : OpenClaim := { program := "ytggiinfeiilogaadoor", sum := "b0c428423a9e9f2f44d6e82644ded20de53fa9a53866386372fad2b468727ad5", func := "kinkeep/kinkeeplaw37.FrameRefuses", spec := "frameRefuses", unfollowed := true, recurses := true, named := ["kinkeep/sha256.initial", "kinkeep/sha256.constants"], apart := false, laid := [("kinkeep/sha256.initial", laid_kinkeep_sha256_initial), ("kinkeep/sha256.constants", laid_kinkeep_sha256_constants)], narrowed := true }
def FrameRefusesUptoSaid : Prop := frameRefusesUptoRow.holds Tryd.pinned (OpenSpec.upto frameRefusesSpec)

/-- 'kinkeeplaw37.FrameBefore', WHERE WHAT IT READS IS OF BULK AT MOST 1048576: true; the input reads as it did. -/
def frameBeforeUptoRow : OpenClaim := { program := "ytggiinfeiilogaadoor", sum := "b0c428423a9e9f2f44d6e82644ded20de53fa9a53866386372fad2b468727ad5", func := "kinkeep/kinkeeplaw37.FrameBefore", spec := "frameBefore", unfollowed := true, recurses := true, named := ["kinkeep/sha256.initial", "kinkeep/sha256.constants"], apart := false, laid := [("kinkeep/sha256.initial", laid_kinkeep_sha256_initial), ("kinkeep/sha256.constants", laid_kinkeep_sha256_constants)], narrowed := true }
def FrameBeforeUptoSaid : Prop := frameBeforeUptoRow.holds Tryd.pinned (OpenSpec.upto frameBeforeSpec)

/-- 'kinkeeplaw37.FrameSticks', WHERE WHAT IT READS IS OF BULK AT MOST 1048576: true; the input reads as it did. -/
def frameSticksUptoRow : OpenClaim := { program := "ytggiinfeiilogaadoor", sum := "b0c428423a9e9f2f44d6e82644ded20de53fa9a53866386372fad2b468727ad5", func := "kinkeep/kinkeeplaw37.FrameSticks", spec := "frameSticks", unfollowed := true, recurses := true, named := ["kinkeep/sha256.initial", "kinkeep/sha256.constants"], apart := false, laid := [("kinkeep/sha256.initial", laid_kinkeep_sha256_initial), ("kinkeep/sha256.constants", laid_kinkeep_sha256_constants)], narrowed := true }
def FrameSticksUptoSaid : Prop := frameSticksUptoRow.holds Tryd.pinned (OpenSpec.upto frameSticksSpec)

/-- 'kinkeeplaw37.FrameSplits', WHERE WHAT IT READS IS OF BULK AT MOST 1048576: true; the input reads as it did. -/
def frameSplitsUptoRow : OpenClaim := { program := "ytggiinfeiilogaadoor", sum := "b0c428423a9e9f2f44d6e82644ded20de53fa9a53866386372fad2b468727ad5", func := "kinkeep/kinkeeplaw37.FrameSplits", spec := "frameSplits", unfollowed := true, recurses := true, named := ["kinkeep/sha256.initial", "kinkeep/sha256.constants"], apart := false, laid := [("kinkeep/sha256.initial", laid_kinkeep_sha256_initial), ("kinkeep/sha256.constants", laid_kinkeep_sha256_constants)], narrowed := true }
def FrameSplitsUptoSaid : Prop := frameSplitsUptoRow.holds Tryd.pinned (OpenSpec.upto frameSplitsSpec)

/-- 'kinkeeplaw37.FrameFits', WHERE WHAT IT READS IS OF BULK AT MOST 1048576: true; the input reads as it did. -/
def frameFitsUptoRow : OpenClaim := { program := "ytggiinfeiilogaadoor", sum := "b0c428423a9e9f2f44d6e82644ded20de53fa9a53866386372fad2b468727ad5", func := "kinkeep/kinkeeplaw37.FrameFits", spec := "frameFits", unfollowed := true, recurses := true, named := ["kinkeep/sha256.initial", "kinkeep/sha256.constants"], apart := false, laid := [("kinkeep/sha256.initial", laid_kinkeep_sha256_initial), ("kinkeep/sha256.constants", laid_kinkeep_sha256_constants)], narrowed := true }
def FrameFitsUptoSaid : Prop := frameFitsUptoRow.holds Tryd.pinned (OpenSpec.upto frameFitsSpec)

/-- 'kinkeeplaw37.FrameJoins', WHERE WHAT IT READS IS OF BULK AT MOST 1048576: true; the input reads as it did. -/
def frameJoinsUptoRow : OpenClaim := { program := "ytggiinfeiilogaadoor", sum := "b0c428423a9e9f2f44d6e82644ded20de53fa9a53866386372fad2b468727ad5", func := "kinkeep/kinkeeplaw37.FrameJoins", spec := "frameJoins", unfollowed := true, recurses := true, named := ["kinkeep/sha256.initial", "kinkeep/sha256.constants"], apart := false, laid := [("kinkeep/sha256.initial", laid_kinkeep_sha256_initial), ("kinkeep/sha256.constants", laid_kinkeep_sha256_constants)], narrowed := true }
def FrameJoinsUptoSaid : Prop := frameJoinsUptoRow.holds Tryd.pinned (OpenSpec.upto frameJoinsSpec)

/-- 'kinkeeplaw37.FrameInverts', WHERE WHAT IT READS IS OF BULK AT MOST 1048576: true; the input reads as it did. -/
def frameInvertsUptoRow : OpenClaim := { program := "ytggiinfeiilogaadoor", sum := "b0c428423a9e9f2f44d6e82644ded20de53fa9a53866386372fad2b468727ad5", func := "kinkeep/kinkeeplaw37.FrameInverts", spec := "frameInverts", unfollowed := true, recurses := true, named := ["kinkeep/sha256.initial", "kinkeep/sha256.constants"], apart := false, laid := [("kinkeep/sha256.initial", laid_kinkeep_sha256_initial), ("kinkeep/sha256.constants", laid_kinkeep_sha256_constants)], narrowed := true }
def FrameInvertsUptoSaid : Prop := frameInvertsUptoRow.holds Tryd.pinned (OpenSpec.upto frameInvertsSpec)

end Rows
end Go.Proofs.YtggiinfeiilogaaDoor
