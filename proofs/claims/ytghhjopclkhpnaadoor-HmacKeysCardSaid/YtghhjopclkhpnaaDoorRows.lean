/-
  NARROWER THAN 'FOR EVERY INPUT', by the rows' own cells (each row's printed sentence says how): HmacTags: laid · HmacStreams: laid · HmacExtracts: laid · HmacExpands: laid · HmacPrefix: laid · HmacEqual: laid · HmacKeys: laid · HmacDerives: laid · HmacLabels: laid · HmacChains: laid.
  DERIVED. THE GIVEN ROWS OF THIS SEAT. 10 by the template 'for every input the law returns true; each argument reads behind the call as it read before'; 0 by the template 'total and deterministic' (their statements: YtghhjopclkhpnaaDoorTotals.lean).
  GIVEN WITH THE SEED: the statements are not yours to turn. If you find one false, say at which input.
  Laid BY PROGRAM, IN A SANDBOX (cutbox-rows.mjs): the forced cells as the released guide's own fill.sh prints them over the translation 3e7a532bb271d2f3… (all of the seat's roots in one cut). By AI agents, Wed Nov 11 2026. No macro, syntax, notation, axiom, sorry.
-/
import Derived.Test.YtghhjopclkhpnaaDoorChecked
import GoSem.Claim
import GoSem.ClaimJoined
import GoSem.ClaimMapViews
import Derived.JoinedTies
import Derived.KernelRfl
namespace Go.Proofs.YtghhjopclkhpnaaDoor
/- THE CELL 'sum', in the pinned program and in every row, IS THE sha256 OF THE DUMP (.gsa) THAT YtghhjopclkhpnaaDoorProg.lean LOADS. Nothing in Lean hashes anything: it is a label: what it is worth is what the hold of that sum in a sandbox is worth. -/
noncomputable def Tryd.pinned : Pinned := { name := "ytghhjopclkhpnaadoor", sum := "3e7a532bb271d2f3a3719ae82d0cb5ad83e33dfd0df9bd63904fab1c1d8813b5", checked := Tryd.checked }
namespace Rows
def none {H : Type} : Left H := { results := [], args := [] }

/- WHAT THE LISTED PACKAGE-LEVEL VARIABLES READ AS WHEN THE CALL BEGINS. Each datum BY PROGRAM (the guide's laid-datum.mjs) off the statement by which the dump's own 'gosem.cut.vars' lays the variable. In a bare row this is a premise. The card (YtghhjopclkhpnaaDoorCards.lean) ties it to the program's text. -/
def laid_kinkeep_sha256_initial {H : Type} : DataW H := .agg [.lit (.int .u32 1779033703), .lit (.int .u32 3144134277), .lit (.int .u32 1013904242), .lit (.int .u32 2773480762), .lit (.int .u32 1359893119), .lit (.int .u32 2600822924), .lit (.int .u32 528734635), .lit (.int .u32 1541459225)]
def laid_kinkeep_sha256_constants {H : Type} : DataW H := .agg [.lit (.int .u32 1116352408), .lit (.int .u32 1899447441), .lit (.int .u32 3049323471), .lit (.int .u32 3921009573), .lit (.int .u32 961987163), .lit (.int .u32 1508970993), .lit (.int .u32 2453635748), .lit (.int .u32 2870763221), .lit (.int .u32 3624381080), .lit (.int .u32 310598401), .lit (.int .u32 607225278), .lit (.int .u32 1426881987), .lit (.int .u32 1925078388), .lit (.int .u32 2162078206), .lit (.int .u32 2614888103), .lit (.int .u32 3248222580), .lit (.int .u32 3835390401), .lit (.int .u32 4022224774), .lit (.int .u32 264347078), .lit (.int .u32 604807628), .lit (.int .u32 770255983), .lit (.int .u32 1249150122), .lit (.int .u32 1555081692), .lit (.int .u32 1996064986), .lit (.int .u32 2554220882), .lit (.int .u32 2821834349), .lit (.int .u32 2952996808), .lit (.int .u32 3210313671), .lit (.int .u32 3336571891), .lit (.int .u32 3584528711), .lit (.int .u32 113926993), .lit (.int .u32 338241895), .lit (.int .u32 666307205), .lit (.int .u32 773529912), .lit (.int .u32 1294757372), .lit (.int .u32 1396182291), .lit (.int .u32 1695183700), .lit (.int .u32 1986661051), .lit (.int .u32 2177026350), .lit (.int .u32 2456956037), .lit (.int .u32 2730485921), .lit (.int .u32 2820302411), .lit (.int .u32 3259730800), .lit (.int .u32 3345764771), .lit (.int .u32 3516065817), .lit (.int .u32 3600352804), .lit (.int .u32 4094571909), .lit (.int .u32 275423344), .lit (.int .u32 430227734), .lit (.int .u32 506948616), .lit (.int .u32 659060556), .lit (.int .u32 883997877), .lit (.int .u32 958139571), .lit (.int .u32 1322822218), .lit (.int .u32 1537002063), .lit (.int .u32 1747873779), .lit (.int .u32 1955562222), .lit (.int .u32 2024104815), .lit (.int .u32 2227730452), .lit (.int .u32 2361852424), .lit (.int .u32 2428436474), .lit (.int .u32 2756734187), .lit (.int .u32 3204031479), .lit (.int .u32 3329325298)]
def laid_kinkeep_hmac_pads {H : Type} : DataW H := .agg [.lit (.int .u8 54), .lit (.int .u8 92)]

/-- 'kinkeeplaw05.HmacTags': WHATEVER THE INPUT: true; the input reads as it did. -/
def hmacTagsSpec : ChangeSpec := { name := "hmacTags", fn := fun _ => fun
  | [d1, d2] => { results := [.lit (.bool true)], args := [d1, d2] }
  | _ => none }
def hmacTagsRow : OpenClaim := { program := "ytghhjopclkhpnaadoor", sum := "3e7a532bb271d2f3a3719ae82d0cb5ad83e33dfd0df9bd63904fab1c1d8813b5", func := "kinkeep/kinkeeplaw05.HmacTags", spec := "hmacTags", unfollowed := true, recurses := true, named := ["kinkeep/hmac.pads", "kinkeep/sha256.initial", "kinkeep/sha256.constants"], apart := false, laid := [("kinkeep/sha256.initial", laid_kinkeep_sha256_initial), ("kinkeep/sha256.constants", laid_kinkeep_sha256_constants), ("kinkeep/hmac.pads", laid_kinkeep_hmac_pads)] }
def HmacTagsSaid : Prop := hmacTagsRow.holds Tryd.pinned (OpenSpec.ofChange hmacTagsSpec)

/-- ITS FALSE NEIGHBOUR: 'it returns false'. Refute it at one input. -/
def hmacTagsWrong : ChangeSpec := { name := "hmacTags", fn := fun _ => fun
  | [d1, d2] => { results := [.lit (.bool false)], args := [d1, d2] }
  | _ => none }
def HmacTagsWrongFalsely : Prop := hmacTagsRow.holds Tryd.pinned (OpenSpec.ofChange hmacTagsWrong)

/-- 'kinkeeplaw05.HmacStreams': WHATEVER THE INPUT: true; the input reads as it did. -/
def hmacStreamsSpec : ChangeSpec := { name := "hmacStreams", fn := fun _ => fun
  | [d1, d2] => { results := [.lit (.bool true)], args := [d1, d2] }
  | _ => none }
def hmacStreamsRow : OpenClaim := { program := "ytghhjopclkhpnaadoor", sum := "3e7a532bb271d2f3a3719ae82d0cb5ad83e33dfd0df9bd63904fab1c1d8813b5", func := "kinkeep/kinkeeplaw05.HmacStreams", spec := "hmacStreams", unfollowed := true, recurses := true, named := ["kinkeep/hmac.pads", "kinkeep/sha256.initial", "kinkeep/sha256.constants"], apart := false, laid := [("kinkeep/sha256.initial", laid_kinkeep_sha256_initial), ("kinkeep/sha256.constants", laid_kinkeep_sha256_constants), ("kinkeep/hmac.pads", laid_kinkeep_hmac_pads)] }
def HmacStreamsSaid : Prop := hmacStreamsRow.holds Tryd.pinned (OpenSpec.ofChange hmacStreamsSpec)

/-- ITS FALSE NEIGHBOUR: 'it returns false'. Refute it at one input. -/
def hmacStreamsWrong : ChangeSpec := { name := "hmacStreams", fn := fun _ => fun
  | [d1, d2] => { results := [.lit (.bool false)], args := [d1, d2] }
  | _ => none }
def HmacStreamsWrongFalsely : Prop := hmacStreamsRow.holds Tryd.pinned (OpenSpec.ofChange hmacStreamsWrong)

/-- 'kinkeeplaw05.HmacExtracts': WHATEVER THE INPUT: true; the input reads as it did. -/
def hmacExtractsSpec : ChangeSpec := { name := "hmacExtracts", fn := fun _ => fun
  | [d1, d2] => { results := [.lit (.bool true)], args := [d1, d2] }
  | _ => none }
def hmacExtractsRow : OpenClaim := { program := "ytghhjopclkhpnaadoor", sum := "3e7a532bb271d2f3a3719ae82d0cb5ad83e33dfd0df9bd63904fab1c1d8813b5", func := "kinkeep/kinkeeplaw05.HmacExtracts", spec := "hmacExtracts", unfollowed := true, recurses := true, named := ["kinkeep/hmac.pads", "kinkeep/sha256.initial", "kinkeep/sha256.constants"], apart := false, laid := [("kinkeep/sha256.initial", laid_kinkeep_sha256_initial), ("kinkeep/sha256.constants", laid_kinkeep_sha256_constants), ("kinkeep/hmac.pads", laid_kinkeep_hmac_pads)] }
def HmacExtractsSaid : Prop := hmacExtractsRow.holds Tryd.pinned (OpenSpec.ofChange hmacExtractsSpec)

/-- ITS FALSE NEIGHBOUR: 'it returns false'. Refute it at one input. -/
def hmacExtractsWrong : ChangeSpec := { name := "hmacExtracts", fn := fun _ => fun
  | [d1, d2] => { results := [.lit (.bool false)], args := [d1, d2] }
  | _ => none }
def HmacExtractsWrongFalsely : Prop := hmacExtractsRow.holds Tryd.pinned (OpenSpec.ofChange hmacExtractsWrong)

/-- 'kinkeeplaw05.HmacExpands': WHATEVER THE INPUT: true; the input reads as it did. -/
def hmacExpandsSpec : ChangeSpec := { name := "hmacExpands", fn := fun _ => fun
  | [d1, d2, d3] => { results := [.lit (.bool true)], args := [d1, d2, d3] }
  | _ => none }
def hmacExpandsRow : OpenClaim := { program := "ytghhjopclkhpnaadoor", sum := "3e7a532bb271d2f3a3719ae82d0cb5ad83e33dfd0df9bd63904fab1c1d8813b5", func := "kinkeep/kinkeeplaw05.HmacExpands", spec := "hmacExpands", unfollowed := true, recurses := true, named := ["kinkeep/hmac.pads", "kinkeep/sha256.initial", "kinkeep/sha256.constants"], apart := false, laid := [("kinkeep/sha256.initial", laid_kinkeep_sha256_initial), ("kinkeep/sha256.constants", laid_kinkeep_sha256_constants), ("kinkeep/hmac.pads", laid_kinkeep_hmac_pads)] }
def HmacExpandsSaid : Prop := hmacExpandsRow.holds Tryd.pinned (OpenSpec.ofChange hmacExpandsSpec)

/-- ITS FALSE NEIGHBOUR: 'it returns false'. Refute it at one input. -/
def hmacExpandsWrong : ChangeSpec := { name := "hmacExpands", fn := fun _ => fun
  | [d1, d2, d3] => { results := [.lit (.bool false)], args := [d1, d2, d3] }
  | _ => none }
def HmacExpandsWrongFalsely : Prop := hmacExpandsRow.holds Tryd.pinned (OpenSpec.ofChange hmacExpandsWrong)

/-- 'kinkeeplaw05.HmacPrefix': WHATEVER THE INPUT: true; the input reads as it did. -/
def hmacPrefixSpec : ChangeSpec := { name := "hmacPrefix", fn := fun _ => fun
  | [d1, d2, d3, d4] => { results := [.lit (.bool true)], args := [d1, d2, d3, d4] }
  | _ => none }
def hmacPrefixRow : OpenClaim := { program := "ytghhjopclkhpnaadoor", sum := "3e7a532bb271d2f3a3719ae82d0cb5ad83e33dfd0df9bd63904fab1c1d8813b5", func := "kinkeep/kinkeeplaw05.HmacPrefix", spec := "hmacPrefix", unfollowed := true, recurses := true, named := ["kinkeep/hmac.pads", "kinkeep/sha256.initial", "kinkeep/sha256.constants"], apart := false, laid := [("kinkeep/sha256.initial", laid_kinkeep_sha256_initial), ("kinkeep/sha256.constants", laid_kinkeep_sha256_constants), ("kinkeep/hmac.pads", laid_kinkeep_hmac_pads)] }
def HmacPrefixSaid : Prop := hmacPrefixRow.holds Tryd.pinned (OpenSpec.ofChange hmacPrefixSpec)

/-- ITS FALSE NEIGHBOUR: 'it returns false'. Refute it at one input. -/
def hmacPrefixWrong : ChangeSpec := { name := "hmacPrefix", fn := fun _ => fun
  | [d1, d2, d3, d4] => { results := [.lit (.bool false)], args := [d1, d2, d3, d4] }
  | _ => none }
def HmacPrefixWrongFalsely : Prop := hmacPrefixRow.holds Tryd.pinned (OpenSpec.ofChange hmacPrefixWrong)

/-- 'kinkeeplaw05.HmacEqual': WHATEVER THE INPUT: true; the input reads as it did. -/
def hmacEqualSpec : ChangeSpec := { name := "hmacEqual", fn := fun _ => fun
  | [d1, d2] => { results := [.lit (.bool true)], args := [d1, d2] }
  | _ => none }
def hmacEqualRow : OpenClaim := { program := "ytghhjopclkhpnaadoor", sum := "3e7a532bb271d2f3a3719ae82d0cb5ad83e33dfd0df9bd63904fab1c1d8813b5", func := "kinkeep/kinkeeplaw05.HmacEqual", spec := "hmacEqual", unfollowed := true, recurses := true, named := ["kinkeep/hmac.pads", "kinkeep/sha256.initial", "kinkeep/sha256.constants"], apart := false, laid := [("kinkeep/sha256.initial", laid_kinkeep_sha256_initial), ("kinkeep/sha256.constants", laid_kinkeep_sha256_constants), ("kinkeep/hmac.pads", laid_kinkeep_hmac_pads)] }
def HmacEqualSaid : Prop := hmacEqualRow.holds Tryd.pinned (OpenSpec.ofChange hmacEqualSpec)

/-- ITS FALSE NEIGHBOUR: 'it returns false'. Refute it at one input. -/
def hmacEqualWrong : ChangeSpec := { name := "hmacEqual", fn := fun _ => fun
  | [d1, d2] => { results := [.lit (.bool false)], args := [d1, d2] }
  | _ => none }
def HmacEqualWrongFalsely : Prop := hmacEqualRow.holds Tryd.pinned (OpenSpec.ofChange hmacEqualWrong)

/-- 'kinkeeplaw05.HmacKeys': WHATEVER THE INPUT: true; the input reads as it did. -/
def hmacKeysSpec : ChangeSpec := { name := "hmacKeys", fn := fun _ => fun
  | [d1, d2] => { results := [.lit (.bool true)], args := [d1, d2] }
  | _ => none }
def hmacKeysRow : OpenClaim := { program := "ytghhjopclkhpnaadoor", sum := "3e7a532bb271d2f3a3719ae82d0cb5ad83e33dfd0df9bd63904fab1c1d8813b5", func := "kinkeep/kinkeeplaw05.HmacKeys", spec := "hmacKeys", unfollowed := true, recurses := true, named := ["kinkeep/hmac.pads", "kinkeep/sha256.initial", "kinkeep/sha256.constants"], apart := false, laid := [("kinkeep/sha256.initial", laid_kinkeep_sha256_initial), ("kinkeep/sha256.constants", laid_kinkeep_sha256_constants), ("kinkeep/hmac.pads", laid_kinkeep_hmac_pads)] }
def HmacKeysSaid : Prop := hmacKeysRow.holds Tryd.pinned (OpenSpec.ofChange hmacKeysSpec)

/-- ITS FALSE NEIGHBOUR: 'it returns false'. Refute it at one input. -/
def hmacKeysWrong : ChangeSpec := { name := "hmacKeys", fn := fun _ => fun
  | [d1, d2] => { results := [.lit (.bool false)], args := [d1, d2] }
  | _ => none }
def HmacKeysWrongFalsely : Prop := hmacKeysRow.holds Tryd.pinned (OpenSpec.ofChange hmacKeysWrong)

/-- 'kinkeeplaw05.HmacDerives': WHATEVER THE INPUT: true; the input reads as it did. -/
def hmacDerivesSpec : ChangeSpec := { name := "hmacDerives", fn := fun _ => fun
  | [d1, d2] => { results := [.lit (.bool true)], args := [d1, d2] }
  | _ => none }
def hmacDerivesRow : OpenClaim := { program := "ytghhjopclkhpnaadoor", sum := "3e7a532bb271d2f3a3719ae82d0cb5ad83e33dfd0df9bd63904fab1c1d8813b5", func := "kinkeep/kinkeeplaw05.HmacDerives", spec := "hmacDerives", unfollowed := true, recurses := true, named := ["kinkeep/hmac.pads", "kinkeep/sha256.initial", "kinkeep/sha256.constants"], apart := false, laid := [("kinkeep/sha256.initial", laid_kinkeep_sha256_initial), ("kinkeep/sha256.constants", laid_kinkeep_sha256_constants), ("kinkeep/hmac.pads", laid_kinkeep_hmac_pads)] }
def HmacDerivesSaid : Prop := hmacDerivesRow.holds Tryd.pinned (OpenSpec.ofChange hmacDerivesSpec)

/-- ITS FALSE NEIGHBOUR: 'it returns false'. Refute it at one input. -/
def hmacDerivesWrong : ChangeSpec := { name := "hmacDerives", fn := fun _ => fun
  | [d1, d2] => { results := [.lit (.bool false)], args := [d1, d2] }
  | _ => none }
def HmacDerivesWrongFalsely : Prop := hmacDerivesRow.holds Tryd.pinned (OpenSpec.ofChange hmacDerivesWrong)

/-- 'kinkeeplaw05.HmacLabels': WHATEVER THE INPUT: true; the input reads as it did. -/
def hmacLabelsSpec : ChangeSpec := { name := "hmacLabels", fn := fun _ => fun
  | [d1, d2] => { results := [.lit (.bool true)], args := [d1, d2] }
  | _ => none }
def hmacLabelsRow : OpenClaim := { program := "ytghhjopclkhpnaadoor", sum := "3e7a532bb271d2f3a3719ae82d0cb5ad83e33dfd0df9bd63904fab1c1d8813b5", func := "kinkeep/kinkeeplaw05.HmacLabels", spec := "hmacLabels", unfollowed := true, recurses := true, named := ["kinkeep/hmac.pads", "kinkeep/sha256.initial", "kinkeep/sha256.constants"], apart := false, laid := [("kinkeep/sha256.initial", laid_kinkeep_sha256_initial), ("kinkeep/sha256.constants", laid_kinkeep_sha256_constants), ("kinkeep/hmac.pads", laid_kinkeep_hmac_pads)] }
def HmacLabelsSaid : Prop := hmacLabelsRow.holds Tryd.pinned (OpenSpec.ofChange hmacLabelsSpec)

/-- ITS FALSE NEIGHBOUR: 'it returns false'. Refute it at one input. -/
def hmacLabelsWrong : ChangeSpec := { name := "hmacLabels", fn := fun _ => fun
  | [d1, d2] => { results := [.lit (.bool false)], args := [d1, d2] }
  | _ => none }
def HmacLabelsWrongFalsely : Prop := hmacLabelsRow.holds Tryd.pinned (OpenSpec.ofChange hmacLabelsWrong)

/-- 'kinkeeplaw05.HmacChains': WHATEVER THE INPUT: true; the input reads as it did. -/
def hmacChainsSpec : ChangeSpec := { name := "hmacChains", fn := fun _ => fun
  | [d1, d2, d3, d4] => { results := [.lit (.bool true)], args := [d1, d2, d3, d4] }
  | _ => none }
def hmacChainsRow : OpenClaim := { program := "ytghhjopclkhpnaadoor", sum := "3e7a532bb271d2f3a3719ae82d0cb5ad83e33dfd0df9bd63904fab1c1d8813b5", func := "kinkeep/kinkeeplaw05.HmacChains", spec := "hmacChains", unfollowed := true, recurses := true, named := ["kinkeep/hmac.pads", "kinkeep/sha256.initial", "kinkeep/sha256.constants"], apart := false, laid := [("kinkeep/sha256.initial", laid_kinkeep_sha256_initial), ("kinkeep/sha256.constants", laid_kinkeep_sha256_constants), ("kinkeep/hmac.pads", laid_kinkeep_hmac_pads)] }
def HmacChainsSaid : Prop := hmacChainsRow.holds Tryd.pinned (OpenSpec.ofChange hmacChainsSpec)

/-- ITS FALSE NEIGHBOUR: 'it returns false'. Refute it at one input. -/
def hmacChainsWrong : ChangeSpec := { name := "hmacChains", fn := fun _ => fun
  | [d1, d2, d3, d4] => { results := [.lit (.bool false)], args := [d1, d2, d3, d4] }
  | _ => none }
def HmacChainsWrongFalsely : Prop := hmacChainsRow.holds Tryd.pinned (OpenSpec.ofChange hmacChainsWrong)

/- THE SECOND FORM. 'bulk': how many values and letters a reading holds, each counted each time it is reached (what is shared counts as often as it is met; a slice's spare places count too). A statement '..UptoSaid' is the law's where the arguments, and the package variables that the reading takes, are together of bulk at most 1048576: NARROWER than '..Said'. Prove '..Said' where nothing that the law and all that it calls make is longer than what came in: it says more and counts as full. Else prove '..UptoSaid'. A law counts once. -/
mutual
def uptoBulk {H : Type} : DataW H → Nat
  | .lit (.string bytes) => bytes.length + 1
  | .lit _ => 1
  | .nil => 1
  | .ptr d => uptoBulk d + 1
  | .slice elems spare => uptoBulkAll elems + uptoBulkAll spare + 1
  | .agg parts => uptoBulkAll parts + 1
  | .iface _ d => uptoBulk d + 1
  | .map entries => uptoBulkEntries entries + 1
  | .held _ => 1
def uptoBulkAll {H : Type} : List (DataW H) → Nat
  | [] => 0
  | d :: r => uptoBulk d + uptoBulkAll r
def uptoBulkEntries {H : Type} : List (Lit × DataW H) → Nat
  | [] => 0
  | x :: r => uptoBulkEntry x + uptoBulkEntries r
def uptoBulkEntry {H : Type} : Lit × DataW H → Nat
  | (.string bytes, d) => bytes.length + uptoBulk d + 1
  | (_, d) => uptoBulk d + 1
 end
def uptoSmall : (H : Type) → List (DataW H) → Bool := fun _ ds => decide (uptoBulkAll ds ≤ 1048576)
def OpenSpec.upto (s : _root_.Go.ChangeSpec) : _root_.Go.OpenSpec := { _root_.Go.OpenSpec.ofChange s with cond := some uptoSmall }

/-- 'kinkeeplaw05.HmacTags', WHERE WHAT IT READS IS OF BULK AT MOST 1048576: true; the input reads as it did. -/
def hmacTagsUptoRow : OpenClaim := { program := "ytghhjopclkhpnaadoor", sum := "3e7a532bb271d2f3a3719ae82d0cb5ad83e33dfd0df9bd63904fab1c1d8813b5", func := "kinkeep/kinkeeplaw05.HmacTags", spec := "hmacTags", unfollowed := true, recurses := true, named := ["kinkeep/hmac.pads", "kinkeep/sha256.initial", "kinkeep/sha256.constants"], apart := false, laid := [("kinkeep/sha256.initial", laid_kinkeep_sha256_initial), ("kinkeep/sha256.constants", laid_kinkeep_sha256_constants), ("kinkeep/hmac.pads", laid_kinkeep_hmac_pads)], narrowed := true }
def HmacTagsUptoSaid : Prop := hmacTagsUptoRow.holds Tryd.pinned (OpenSpec.upto hmacTagsSpec)

/-- 'kinkeeplaw05.HmacStreams', WHERE WHAT IT READS IS OF BULK AT MOST 1048576: true; the input reads as it did. -/
def hmacStreamsUptoRow : OpenClaim := { program := "ytghhjopclkhpnaadoor", sum := "3e7a532bb271d2f3a3719ae82d0cb5ad83e33dfd0df9bd63904fab1c1d8813b5", func := "kinkeep/kinkeeplaw05.HmacStreams", spec := "hmacStreams", unfollowed := true, recurses := true, named := ["kinkeep/hmac.pads", "kinkeep/sha256.initial", "kinkeep/sha256.constants"], apart := false, laid := [("kinkeep/sha256.initial", laid_kinkeep_sha256_initial), ("kinkeep/sha256.constants", laid_kinkeep_sha256_constants), ("kinkeep/hmac.pads", laid_kinkeep_hmac_pads)], narrowed := true }
def HmacStreamsUptoSaid : Prop := hmacStreamsUptoRow.holds Tryd.pinned (OpenSpec.upto hmacStreamsSpec)

/-- 'kinkeeplaw05.HmacExtracts', WHERE WHAT IT READS IS OF BULK AT MOST 1048576: true; the input reads as it did. -/
def hmacExtractsUptoRow : OpenClaim := { program := "ytghhjopclkhpnaadoor", sum := "3e7a532bb271d2f3a3719ae82d0cb5ad83e33dfd0df9bd63904fab1c1d8813b5", func := "kinkeep/kinkeeplaw05.HmacExtracts", spec := "hmacExtracts", unfollowed := true, recurses := true, named := ["kinkeep/hmac.pads", "kinkeep/sha256.initial", "kinkeep/sha256.constants"], apart := false, laid := [("kinkeep/sha256.initial", laid_kinkeep_sha256_initial), ("kinkeep/sha256.constants", laid_kinkeep_sha256_constants), ("kinkeep/hmac.pads", laid_kinkeep_hmac_pads)], narrowed := true }
def HmacExtractsUptoSaid : Prop := hmacExtractsUptoRow.holds Tryd.pinned (OpenSpec.upto hmacExtractsSpec)

/-- 'kinkeeplaw05.HmacExpands', WHERE WHAT IT READS IS OF BULK AT MOST 1048576: true; the input reads as it did. -/
def hmacExpandsUptoRow : OpenClaim := { program := "ytghhjopclkhpnaadoor", sum := "3e7a532bb271d2f3a3719ae82d0cb5ad83e33dfd0df9bd63904fab1c1d8813b5", func := "kinkeep/kinkeeplaw05.HmacExpands", spec := "hmacExpands", unfollowed := true, recurses := true, named := ["kinkeep/hmac.pads", "kinkeep/sha256.initial", "kinkeep/sha256.constants"], apart := false, laid := [("kinkeep/sha256.initial", laid_kinkeep_sha256_initial), ("kinkeep/sha256.constants", laid_kinkeep_sha256_constants), ("kinkeep/hmac.pads", laid_kinkeep_hmac_pads)], narrowed := true }
def HmacExpandsUptoSaid : Prop := hmacExpandsUptoRow.holds Tryd.pinned (OpenSpec.upto hmacExpandsSpec)

/-- 'kinkeeplaw05.HmacPrefix', WHERE WHAT IT READS IS OF BULK AT MOST 1048576: true; the input reads as it did. -/
def hmacPrefixUptoRow : OpenClaim := { program := "ytghhjopclkhpnaadoor", sum := "3e7a532bb271d2f3a3719ae82d0cb5ad83e33dfd0df9bd63904fab1c1d8813b5", func := "kinkeep/kinkeeplaw05.HmacPrefix", spec := "hmacPrefix", unfollowed := true, recurses := true, named := ["kinkeep/hmac.pads", "kinkeep/sha256.initial", "kinkeep/sha256.constants"], apart := false, laid := [("kinkeep/sha256.initial", laid_kinkeep_sha256_initial), ("kinkeep/sha256.constants", laid_kinkeep_sha256_constants), ("kinkeep/hmac.pads", laid_kinkeep_hmac_pads)], narrowed := true }
def HmacPrefixUptoSaid : Prop := hmacPrefixUptoRow.holds Tryd.pinned (OpenSpec.upto hmacPrefixSpec)

/-- 'kinkeeplaw05.HmacEqual', WHERE WHAT IT READS IS OF BULK AT MOST 1048576: true; the input reads as it did. -/
def hmacEqualUptoRow : OpenClaim := { program := "ytghhjopclkhpnaadoor", sum := "3e7a532bb271d2f3a3719ae82d0cb5ad83e33dfd0df9bd63904fab1c1d8813b5", func := "kinkeep/kinkeeplaw05.HmacEqual", spec := "hmacEqual", unfollowed := true, recurses := true, named := ["kinkeep/hmac.pads", "kinkeep/sha256.initial", "kinkeep/sha256.constants"], apart := false, laid := [("kinkeep/sha256.initial", laid_kinkeep_sha256_initial), ("kinkeep/sha256.constants", laid_kinkeep_sha256_constants), ("kinkeep/hmac.pads", laid_kinkeep_hmac_pads)], narrowed := true }
def HmacEqualUptoSaid : Prop := hmacEqualUptoRow.holds Tryd.pinned (OpenSpec.upto hmacEqualSpec)

/-- 'kinkeeplaw05.HmacKeys', WHERE WHAT IT READS IS OF BULK AT MOST 1048576: true; the input reads as it did. -/
def hmacKeysUptoRow : OpenClaim := { program := "ytghhjopclkhpnaadoor", sum := "3e7a532bb271d2f3a3719ae82d0cb5ad83e33dfd0df9bd63904fab1c1d8813b5", func := "kinkeep/kinkeeplaw05.HmacKeys", spec := "hmacKeys", unfollowed := true, recurses := true, named := ["kinkeep/hmac.pads", "kinkeep/sha256.initial", "kinkeep/sha256.constants"], apart := false, laid := [("kinkeep/sha256.initial", laid_kinkeep_sha256_initial), ("kinkeep/sha256.constants", laid_kinkeep_sha256_constants), ("kinkeep/hmac.pads", laid_kinkeep_hmac_pads)], narrowed := true }
def HmacKeysUptoSaid : Prop := hmacKeysUptoRow.holds Tryd.pinned (OpenSpec.upto hmacKeysSpec)

/-- 'kinkeeplaw05.HmacDerives', WHERE WHAT IT READS IS OF BULK AT MOST 1048576: true; the input reads as it did. -/
def hmacDerivesUptoRow : OpenClaim := { program := "ytghhjopclkhpnaadoor", sum := "3e7a532bb271d2f3a3719ae82d0cb5ad83e33dfd0df9bd63904fab1c1d8813b5", func := "kinkeep/kinkeeplaw05.HmacDerives", spec := "hmacDerives", unfollowed := true, recurses := true, named := ["kinkeep/hmac.pads", "kinkeep/sha256.initial", "kinkeep/sha256.constants"], apart := false, laid := [("kinkeep/sha256.initial", laid_kinkeep_sha256_initial), ("kinkeep/sha256.constants", laid_kinkeep_sha256_constants), ("kinkeep/hmac.pads", laid_kinkeep_hmac_pads)], narrowed := true }
def HmacDerivesUptoSaid : Prop := hmacDerivesUptoRow.holds Tryd.pinned (OpenSpec.upto hmacDerivesSpec)

/-- 'kinkeeplaw05.HmacLabels', WHERE WHAT IT READS IS OF BULK AT MOST 1048576: true; the input reads as it did. -/
def hmacLabelsUptoRow : OpenClaim := { program := "ytghhjopclkhpnaadoor", sum := "3e7a532bb271d2f3a3719ae82d0cb5ad83e33dfd0df9bd63904fab1c1d8813b5", func := "kinkeep/kinkeeplaw05.HmacLabels", spec := "hmacLabels", unfollowed := true, recurses := true, named := ["kinkeep/hmac.pads", "kinkeep/sha256.initial", "kinkeep/sha256.constants"], apart := false, laid := [("kinkeep/sha256.initial", laid_kinkeep_sha256_initial), ("kinkeep/sha256.constants", laid_kinkeep_sha256_constants), ("kinkeep/hmac.pads", laid_kinkeep_hmac_pads)], narrowed := true }
def HmacLabelsUptoSaid : Prop := hmacLabelsUptoRow.holds Tryd.pinned (OpenSpec.upto hmacLabelsSpec)

/-- 'kinkeeplaw05.HmacChains', WHERE WHAT IT READS IS OF BULK AT MOST 1048576: true; the input reads as it did. -/
def hmacChainsUptoRow : OpenClaim := { program := "ytghhjopclkhpnaadoor", sum := "3e7a532bb271d2f3a3719ae82d0cb5ad83e33dfd0df9bd63904fab1c1d8813b5", func := "kinkeep/kinkeeplaw05.HmacChains", spec := "hmacChains", unfollowed := true, recurses := true, named := ["kinkeep/hmac.pads", "kinkeep/sha256.initial", "kinkeep/sha256.constants"], apart := false, laid := [("kinkeep/sha256.initial", laid_kinkeep_sha256_initial), ("kinkeep/sha256.constants", laid_kinkeep_sha256_constants), ("kinkeep/hmac.pads", laid_kinkeep_hmac_pads)], narrowed := true }
def HmacChainsUptoSaid : Prop := hmacChainsUptoRow.holds Tryd.pinned (OpenSpec.upto hmacChainsSpec)

end Rows
end Go.Proofs.YtghhjopclkhpnaaDoor
