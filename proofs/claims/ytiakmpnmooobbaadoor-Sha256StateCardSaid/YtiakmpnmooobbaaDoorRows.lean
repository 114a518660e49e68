/-
  NARROWER THAN 'FOR EVERY INPUT', by the rows' own cells (each row's printed sentence says how): Sha256Sums: laid · Sha256Joins: laid · Sha256Hex: laid · Sha256Digits: laid · Sha256Inverts: laid · Sha256Pieces: laid · Sha256Clones: laid · Sha256State: laid.
  DERIVED. THE GIVEN ROWS OF THIS SEAT. 8 by the template 'for every input the law returns true; each argument reads behind the call as it read before'; 0 by the template 'total and deterministic' (their statements: YtiakmpnmooobbaaDoorTotals.lean).
  GIVEN WITH THE SEED: the statements are not yours to turn. If you find one false, say at which input.
  Laid BY PROGRAM, IN A SANDBOX (cutbox-rows.mjs): the forced cells as the released guide's own fill.sh prints them over the translation 219713ed7b092e7d… (all of the seat's roots in one cut). By AI agents, Wed Nov 11 2026. No macro, syntax, notation, axiom, sorry.
-/
import Derived.Test.YtiakmpnmooobbaaDoorChecked
import GoSem.Claim
import GoSem.ClaimJoined
import GoSem.ClaimMapViews
import Derived.JoinedTies
import Derived.KernelRfl
namespace Go.Proofs.YtiakmpnmooobbaaDoor
/- THE CELL 'sum', in the pinned program and in every row, IS THE sha256 OF THE DUMP (.gsa) THAT YtiakmpnmooobbaaDoorProg.lean LOADS. Nothing in Lean hashes anything: it is a label: what it is worth is what the hold of that sum in a sandbox is worth. -/
noncomputable def Tryd.pinned : Pinned := { name := "ytiakmpnmooobbaadoor", sum := "219713ed7b092e7d534dec27f6a8a4d22747c709bc4b506b1540a2fb041527f1", checked := Tryd.checked }
namespace Rows
def none {H : Type} : Left H := { results := [], args := [] }

/- WHAT THE LISTED PACKAGE-LEVEL VARIABLES READ AS WHEN THE CALL BEGINS. Each datum BY PROGRAM (the guide's laid-datum.mjs) off the statement by which the dump's own 'gosem.cut.vars' lays the variable. In a bare row this is a premise. The card (YtiakmpnmooobbaaDoorCards.lean) ties it to the program's text. -/
def laid_kinkeep_sha256_initial {H : Type} : DataW H := .agg [.lit (.int .u32 1779033703), .lit (.int .u32 3144134277), .lit (.int .u32 1013904242), .lit (.int .u32 2773480762), .lit (.int .u32 1359893119), .lit (.int .u32 2600822924), .lit (.int .u32 528734635), .lit (.int .u32 1541459225)]
def laid_kinkeep_sha256_constants {H : Type} : DataW H := .agg [.lit (.int .u32 1116352408), .lit (.int .u32 1899447441), .lit (.int .u32 3049323471), .lit (.int .u32 3921009573), .lit (.int .u32 961987163), .lit (.int .u32 1508970993), .lit (.int .u32 2453635748), .lit (.int .u32 2870763221), .lit (.int .u32 3624381080), .lit (.int .u32 310598401), .lit (.int .u32 607225278), .lit (.int .u32 1426881987), .lit (.int .u32 1925078388), .lit (.int .u32 2162078206), .lit (.int .u32 2614888103), .lit (.int .u32 3248222580), .lit (.int .u32 3835390401), .lit (.int .u32 4022224774), .lit (.int .u32 264347078), .lit (.int .u32 604807628), .lit (.int .u32 770255983), .lit (.int .u32 1249150122), .lit (.int .u32 1555081692), .lit (.int .u32 1996064986), .lit (.int .u32 2554220882), .lit (.int .u32 2821834349), .lit (.int .u32 2952996808), .lit (.int .u32 3210313671), .lit (.int .u32 3336571891), .lit (.int .u32 3584528711), .lit (.int .u32 113926993), .lit (.int .u32 338241895), .lit (.int .u32 666307205), .lit (.int .u32 773529912), .lit (.int .u32 1294757372), .lit (.int .u32 1396182291), .lit (.int .u32 1695183700), .lit (.int .u32 1986661051), .lit (.int .u32 2177026350), .lit (.int .u32 2456956037), .lit (.int .u32 2730485921), .lit (.int .u32 2820302411), .lit (.int .u32 3259730800), .lit (.int .u32 3345764771), .lit (.int .u32 3516065817), .lit (.int .u32 3600352804), .lit (.int .u32 4094571909), .lit (.int .u32 275423344), .lit (.int .u32 430227734), .lit (.int .u32 506948616), .lit (.int .u32 659060556), .lit (.int .u32 883997877), .lit (.int .u32 958139571), .lit (.int .u32 1322822218), .lit (.int .u32 1537002063), .lit (.int .u32 1747873779), .lit (.int .u32 1955562222), .lit (.int .u32 2024104815), .lit (.int .u32 2227730452), .lit (.int .u32 2361852424), .lit (.int .u32 2428436474), .lit (.int .u32 2756734187), .lit (.int .u32 3204031479), .lit (.int .u32 3329325298)]

/-- 'kinkeeplaw03.Sha256Sums': WHATEVER THE INPUT: true; the input reads as it did. -/
def sha256SumsSpec : ChangeSpec := { name := "sha256Sums", fn := fun _ => fun
  | [d] => { results := [.lit (.bool true)], args := [d] }
  | _ => none }
def sha256SumsRow : OpenClaim := { program := "ytiakmpnmooobbaadoor", sum := "219713ed7b092e7d534dec27f6a8a4d22747c709bc4b506b1540a2fb041527f1", func := "kinkeep/kinkeeplaw03.Sha256Sums", spec := "sha256Sums", named := ["kinkeep/sha256.initial", "kinkeep/sha256.constants"], apart := false, laid := [("kinkeep/sha256.initial", laid_kinkeep_sha256_initial), ("kinkeep/sha256.constants", laid_kinkeep_sha256_constants)] }
def Sha256SumsSaid : Prop := sha256SumsRow.holds Tryd.pinned (OpenSpec.ofChange sha256SumsSpec)

/-- ITS FALSE NEIGHBOUR: 'it returns false'. Refute it at one input. -/
def sha256SumsWrong : ChangeSpec := { name := "sha256Sums", fn := fun _ => fun
  | [d] => { results := [.lit (.bool false)], args := [d] }
  | _ => none }
def Sha256SumsWrongFalsely : Prop := sha256SumsRow.holds Tryd.pinned (OpenSpec.ofChange sha256SumsWrong)

/-- 'kinkeeplaw03.Sha256Joins': WHATEVER THE INPUT: true; the input reads as it did. -/
def sha256JoinsSpec : ChangeSpec := { name := "sha256Joins", fn := fun _ => fun
  | [d] => { results := [.lit (.bool true)], args := [d] }
  | _ => none }
def sha256JoinsRow : OpenClaim := { program := "ytiakmpnmooobbaadoor", sum := "219713ed7b092e7d534dec27f6a8a4d22747c709bc4b506b1540a2fb041527f1", func := "kinkeep/kinkeeplaw03.Sha256Joins", spec := "sha256Joins", named := ["kinkeep/sha256.initial", "kinkeep/sha256.constants"], apart := false, laid := [("kinkeep/sha256.initial", laid_kinkeep_sha256_initial), ("kinkeep/sha256.constants", laid_kinkeep_sha256_constants)] }
def Sha256JoinsSaid : Prop := sha256JoinsRow.holds Tryd.pinned (OpenSpec.ofChange sha256JoinsSpec)

/-- ITS FALSE NEIGHBOUR: 'it returns false'. Refute it at one input. -/
def sha256JoinsWrong : ChangeSpec := { name := "sha256Joins", fn := fun _ => fun
  | [d] => { results := [.lit (.bool false)], args := [d] }
  | _ => none }
def Sha256JoinsWrongFalsely : Prop := sha256JoinsRow.holds Tryd.pinned (OpenSpec.ofChange sha256JoinsWrong)

/-- 'kinkeeplaw03.Sha256Hex': WHATEVER THE INPUT: true; the input reads as it did. -/
def sha256HexSpec : ChangeSpec := { name := "sha256Hex", fn := fun _ => fun
  | [d] => { results := [.lit (.bool true)], args := [d] }
  | _ => none }
def sha256HexRow : OpenClaim := { program := "ytiakmpnmooobbaadoor", sum := "219713ed7b092e7d534dec27f6a8a4d22747c709bc4b506b1540a2fb041527f1", func := "kinkeep/kinkeeplaw03.Sha256Hex", spec := "sha256Hex", named := ["kinkeep/sha256.initial", "kinkeep/sha256.constants"], apart := false, laid := [("kinkeep/sha256.initial", laid_kinkeep_sha256_initial), ("kinkeep/sha256.constants", laid_kinkeep_sha256_constants)] }
def Sha256HexSaid : Prop := sha256HexRow.holds Tryd.pinned (OpenSpec.ofChange sha256HexSpec)

/-- ITS FALSE NEIGHBOUR: 'it returns false'. Refute it at one input. -/
def sha256HexWrong : ChangeSpec := { name := "sha256Hex", fn := fun _ => fun
  | [d] => { results := [.lit (.bool false)], args := [d] }
  | _ => none }
def Sha256HexWrongFalsely : Prop := sha256HexRow.holds Tryd.pinned (OpenSpec.ofChange sha256HexWrong)

/-- 'kinkeeplaw03.Sha256Digits': WHATEVER THE INPUT: true; the input reads as it did. -/
def sha256DigitsSpec : ChangeSpec := { name := "sha256Digits", fn := fun _ => fun
  | [d] => { results := [.lit (.bool true)], args := [d] }
  | _ => none }
def sha256DigitsRow : OpenClaim := { program := "ytiakmpnmooobbaadoor", sum := "219713ed7b092e7d534dec27f6a8a4d22747c709bc4b506b1540a2fb041527f1", func := "kinkeep/kinkeeplaw03.Sha256Digits", spec := "sha256Digits", named := ["kinkeep/sha256.initial", "kinkeep/sha256.constants"], apart := false, laid := [("kinkeep/sha256.initial", laid_kinkeep_sha256_initial), ("kinkeep/sha256.constants", laid_kinkeep_sha256_constants)] }
def Sha256DigitsSaid : Prop := sha256DigitsRow.holds Tryd.pinned (OpenSpec.ofChange sha256DigitsSpec)

/-- ITS FALSE NEIGHBOUR: 'it returns false'. Refute it at one input. -/
def sha256DigitsWrong : ChangeSpec := { name := "sha256Digits", fn := fun _ => fun
  | [d] => { results := [.lit (.bool false)], args := [d] }
  | _ => none }
def Sha256DigitsWrongFalsely : Prop := sha256DigitsRow.holds Tryd.pinned (OpenSpec.ofChange sha256DigitsWrong)

/-- 'kinkeeplaw03.Sha256Inverts': WHATEVER THE INPUT: true; the input reads as it did. -/
def sha256InvertsSpec : ChangeSpec := { name := "sha256Inverts", fn := fun _ => fun
  | [d] => { results := [.lit (.bool true)], args := [d] }
  | _ => none }
def sha256InvertsRow : OpenClaim := { program := "ytiakmpnmooobbaadoor", sum := "219713ed7b092e7d534dec27f6a8a4d22747c709bc4b506b1540a2fb041527f1", func := "kinkeep/kinkeeplaw03.Sha256Inverts", spec := "sha256Inverts", named := ["kinkeep/sha256.initial", "kinkeep/sha256.constants"], apart := false, laid := [("kinkeep/sha256.initial", laid_kinkeep_sha256_initial), ("kinkeep/sha256.constants", laid_kinkeep_sha256_constants)] }
def Sha256InvertsSaid : Prop := sha256InvertsRow.holds Tryd.pinned (OpenSpec.ofChange sha256InvertsSpec)

/-- ITS FALSE NEIGHBOUR: 'it returns false'. Refute it at one input. -/
def sha256InvertsWrong : ChangeSpec := { name := "sha256Inverts", fn := fun _ => fun
  | [d] => { results := [.lit (.bool false)], args := [d] }
  | _ => none }
def Sha256InvertsWrongFalsely : Prop := sha256InvertsRow.holds Tryd.pinned (OpenSpec.ofChange sha256InvertsWrong)

/-- 'kinkeeplaw03.Sha256Pieces': WHATEVER THE INPUT: true; the input reads as it did. -/
def sha256PiecesSpec : ChangeSpec := { name := "sha256Pieces", fn := fun _ => fun
  | [d1, d2] => { results := [.lit (.bool true)], args := [d1, d2] }
  | _ => none }
def sha256PiecesRow : OpenClaim := { program := "ytiakmpnmooobbaadoor", sum := "219713ed7b092e7d534dec27f6a8a4d22747c709bc4b506b1540a2fb041527f1", func := "kinkeep/kinkeeplaw03.Sha256Pieces", spec := "sha256Pieces", named := ["kinkeep/sha256.initial", "kinkeep/sha256.constants"], apart := false, laid := [("kinkeep/sha256.initial", laid_kinkeep_sha256_initial), ("kinkeep/sha256.constants", laid_kinkeep_sha256_constants)] }
def Sha256PiecesSaid : Prop := sha256PiecesRow.holds Tryd.pinned (OpenSpec.ofChange sha256PiecesSpec)

/-- ITS FALSE NEIGHBOUR: 'it returns false'. Refute it at one input. -/
def sha256PiecesWrong : ChangeSpec := { name := "sha256Pieces", fn := fun _ => fun
  | [d1, d2] => { results := [.lit (.bool false)], args := [d1, d2] }
  | _ => none }
def Sha256PiecesWrongFalsely : Prop := sha256PiecesRow.holds Tryd.pinned (OpenSpec.ofChange sha256PiecesWrong)

/-- 'kinkeeplaw03.Sha256Clones': WHATEVER THE INPUT: true; the input reads as it did. -/
def sha256ClonesSpec : ChangeSpec := { name := "sha256Clones", fn := fun _ => fun
  | [d1, d2, d3] => { results := [.lit (.bool true)], args := [d1, d2, d3] }
  | _ => none }
def sha256ClonesRow : OpenClaim := { program := "ytiakmpnmooobbaadoor", sum := "219713ed7b092e7d534dec27f6a8a4d22747c709bc4b506b1540a2fb041527f1", func := "kinkeep/kinkeeplaw03.Sha256Clones", spec := "sha256Clones", named := ["kinkeep/sha256.initial", "kinkeep/sha256.constants"], apart := false, laid := [("kinkeep/sha256.initial", laid_kinkeep_sha256_initial), ("kinkeep/sha256.constants", laid_kinkeep_sha256_constants)] }
def Sha256ClonesSaid : Prop := sha256ClonesRow.holds Tryd.pinned (OpenSpec.ofChange sha256ClonesSpec)

/-- ITS FALSE NEIGHBOUR: 'it returns false'. Refute it at one input. -/
def sha256ClonesWrong : ChangeSpec := { name := "sha256Clones", fn := fun _ => fun
  | [d1, d2, d3] => { results := [.lit (.bool false)], args := [d1, d2, d3] }
  | _ => none }
def Sha256ClonesWrongFalsely : Prop := sha256ClonesRow.holds Tryd.pinned (OpenSpec.ofChange sha256ClonesWrong)

/-- 'kinkeeplaw03.Sha256State': WHATEVER THE INPUT: true; the input reads as it did. -/
def sha256StateSpec : ChangeSpec := { name := "sha256State", fn := fun _ => fun
  | [d] => { results := [.lit (.bool true)], args := [d] }
  | _ => none }
def sha256StateRow : OpenClaim := { program := "ytiakmpnmooobbaadoor", sum := "219713ed7b092e7d534dec27f6a8a4d22747c709bc4b506b1540a2fb041527f1", func := "kinkeep/kinkeeplaw03.Sha256State", spec := "sha256State", named := ["kinkeep/sha256.initial", "kinkeep/sha256.constants"], apart := false, laid := [("kinkeep/sha256.initial", laid_kinkeep_sha256_initial), ("kinkeep/sha256.constants", laid_kinkeep_sha256_constants)] }
def Sha256StateSaid : Prop := sha256StateRow.holds Tryd.pinned (OpenSpec.ofChange sha256StateSpec)

/-- ITS FALSE NEIGHBOUR: 'it returns false'. Refute it at one input. -/
def sha256StateWrong : ChangeSpec := { name := "sha256State", fn := fun _ => fun
  | [d] => { results := [.lit (.bool false)], args := [d] }
  | _ => none }
def Sha256StateWrongFalsely : Prop := sha256StateRow.holds Tryd.pinned (OpenSpec.ofChange sha256StateWrong)

/- THE SECOND FORM. 'bulk': how many values and letters a reading holds, each counted each time it is reached (what is shared counts as often as it is met; a slice's spare places count too). A statement '..UptoSaid' is the law's where the arguments, and the package variables that the reading takes, are together of bulk at most 1048576: NARROWER than '..Said'. Prove '..Said' where nothing that the law and all that it calls make is longer than what came in: it says more and counts as full. Else prove '..UptoSaid'. A law counts once. -/
mutual
def uptoBulk {H : Type} : DataW H → Nat
  | .lit (.string bytes) => bytes.length + 1
  | .lit _ => 1
  | .nil => 1
  | .ptr d => uptoBulk d + 1
  | .slice elems spare => uptoBulkAll elems + uptoBulkAll spare + 1
  | .agg parts => uptoBulkAll parts + 1
  | .iface _ d => uptoBulk d + 1
  | .map entries => uptoBulkEntries entries + 1
  | .held _ => 1
def uptoBulkAll {H : Type} : List (DataW H) → Nat
  | [] => 0
  | d :: r => uptoBulk d + uptoBulkAll r
def uptoBulkEntries {H : Type} : List (Lit × DataW H) → Nat
  | [] => 0
  | x :: r => uptoBulkEntry x + uptoBulkEntries r
def uptoBulkEntry {H : Type} : Lit × DataW H → Nat
  | (.string bytes, d) => bytes.length + uptoBulk d + 1
  | (_, d) => uptoBulk d + 1
 end
def uptoSmall : (H : Type) → List (DataW H) → Bool := fun _ ds => decide (uptoBulkAll ds ≤ 1048576)
def OpenSpec.upto (s : _root_.Go.ChangeSpec) : _root_.Go.OpenSpec := { _root_.Go.OpenSpec.ofChange s with cond := some uptoSmall }

/-- 'kinkeeplaw03.Sha256Sums', WHERE WHAT IT READS IS OF BULK AT MOST 1048576: true; the input reads as it did. -/
def sha256SumsUptoRow : OpenClaim := { program := "ytiakmpnmooobbaadoor", sum := "219713ed7b092e7d534dec27f6a8a4d22747c709bc4b506b1540a2fb041527f1", func := "kinkeep/kinkeeplaw03.Sha256Sums", spec := "sha256Sums", named := ["kinkeep/sha256.initial", "kinkeep/sha256.constants"], apart := false, laid := [("kinkeep/sha256.initial", laid_kinkeep_sha256_initial), ("kinkeep/sha256.constants", laid_kinkeep_sha256_constants)], narrowed := true }
def Sha256SumsUptoSaid : Prop := sha256SumsUptoRow.holds Tryd.pinned (OpenSpec.upto sha256SumsSpec)

/-- 'kinkeeplaw03.Sha256Joins', WHERE WHAT IT READS IS OF BULK AT MOST 1048576: true; the input reads as it did. -/
def sha256JoinsUptoRow : OpenClaim := { program := "ytiakmpnmooobbaadoor", sum := "219713ed7b092e7d534dec27f6a8a4d22747c709bc4b506b1540a2fb041527f1", func := "kinkeep/kinkeeplaw03.Sha256Joins", spec := "sha256Joins", named := ["kinkeep/sha256.initial", "kinkeep/sha256.constants"], apart := false, laid := [("kinkeep/sha256.initial", laid_kinkeep_sha256_initial), ("kinkeep/sha256.constants", laid_kinkeep_sha256_constants)], narrowed := true }
def Sha256JoinsUptoSaid : Prop := sha256JoinsUptoRow.holds Tryd.pinned (OpenSpec.upto sha256JoinsSpec)

/-- 'kinkeeplaw03.Sha256Hex', WHERE WHAT IT READS IS OF BULK AT MOST 1048576: true; the input reads as it did. -/
def sha256HexUptoRow : OpenClaim := { program := "ytiakmpnmooobbaadoor", sum := "219713ed7b092e7d534dec27f6a8a4d22747c709bc4b506b1540a2fb041527f1", func := "kinkeep/kinkeeplaw03.Sha256Hex", spec := "sha256Hex", named := ["kinkeep/sha256.initial", "kinkeep/sha256.constants"], apart := false, laid := [("kinkeep/sha256.initial", laid_kinkeep_sha256_initial), ("kinkeep/sha256.constants", laid_kinkeep_sha256_constants)], narrowed := true }
def Sha256HexUptoSaid : Prop := sha256HexUptoRow.holds Tryd.pinned (OpenSpec.upto sha256HexSpec)

/-- 'kinkeeplaw03.Sha256Digits', WHERE WHAT IT READS IS OF BULK AT MOST 1048576: true; the input reads as it did. -/
def sha256DigitsUptoRow : OpenClaim := { program := "ytiakmpnmooobbaadoor", sum := "219713ed7b092e7d534dec27f6a8a4d22747c709bc4b506b1540a2fb041527f1", func := "kinkeep/kinkeeplaw03.Sha256Digits", spec := "sha256Digits", named := ["kinkeep/sha256.initial", "kinkeep/sha256.constants"], apart := false, laid := [("kinkeep/sha256.initial", laid_kinkeep_sha256_initial), ("kinkeep/sha256.constants", laid_kinkeep_sha256_constants)], narrowed := true }
def Sha256DigitsUptoSaid : Prop := sha256DigitsUptoRow.holds Tryd.pinned (OpenSpec.upto sha256DigitsSpec)

/-- 'kinkeeplaw03.Sha256Inverts', WHERE WHAT IT READS IS OF BULK AT MOST 1048576: true; the input reads as it did. -/
def sha256InvertsUptoRow : OpenClaim := { program := "ytiakmpnmooobbaadoor", sum := "219713ed7b092e7d534dec27f6a8a4d22747c709bc4b506b1540a2fb041527f1", func := "kinkeep/kinkeeplaw03.Sha256Inverts", spec := "sha256Inverts", named := ["kinkeep/sha256.initial", "kinkeep/sha256.constants"], apart := false, laid := [("kinkeep/sha256.initial", laid_kinkeep_sha256_initial), ("kinkeep/sha256.constants", laid_kinkeep_sha256_constants)], narrowed := true }
def Sha256InvertsUptoSaid : Prop := sha256InvertsUptoRow.holds Tryd.pinned (OpenSpec.upto sha256InvertsSpec)

/-- 'kinkeeplaw03.Sha256Pieces', WHERE WHAT IT READS IS OF BULK AT MOST 1048576: true; the input reads as it did. -/
def sha256PiecesUptoRow : OpenClaim := { program := "ytiakmpnmooobbaadoor", sum := "219713ed7b092e7d534dec27f6a8a4d22747c709bc4b506b1540a2fb041527f1", func := "kinkeep/kinkeeplaw03.Sha256Pieces", spec := "sha256Pieces", named := ["kinkeep/sha256.initial", "kinkeep/sha256.constants"], apart := false, laid := [("kinkeep/sha256.initial", laid_kinkeep_sha256_initial), ("kinkeep/sha256.constants", laid_kinkeep_sha256_constants)], narrowed := true }
def Sha256PiecesUptoSaid : Prop := sha256PiecesUptoRow.holds Tryd.pinned (OpenSpec.upto sha256PiecesSpec)

/-- 'kinkeeplaw03.Sha256Clones', WHERE WHAT IT READS IS OF BULK AT MOST 1048576: true; the input reads as it did. -/
def sha256ClonesUptoRow : OpenClaim := { program := "ytiakmpnmooobbaadoor", sum := "219713ed7b092e7d534dec27f6a8a4d22747c709bc4b506b1540a2fb041527f1", func := "kinkeep/kinkeeplaw03.Sha256Clones", spec := "sha256Clones", named := ["kinkeep/sha256.initial", "kinkeep/sha256.constants"], apart := false, laid := [("kinkeep/sha256.initial", laid_kinkeep_sha256_initial), ("kinkeep/sha256.constants", laid_kinkeep_sha256_constants)], narrowed := true }
def Sha256ClonesUptoSaid : Prop := sha256ClonesUptoRow.holds Tryd.pinned (OpenSpec.upto sha256ClonesSpec)

/-- 'kinkeeplaw03.Sha256State', WHERE WHAT IT READS IS OF BULK AT MOST 1048576: true; the input reads as it did. -/
def sha256StateUptoRow : OpenClaim := { program := "ytiakmpnmooobbaadoor", sum := "219713ed7b092e7d534dec27f6a8a4d22747c709bc4b506b1540a2fb041527f1", func := "kinkeep/kinkeeplaw03.Sha256State", spec := "sha256State", named := ["kinkeep/sha256.initial", "kinkeep/sha256.constants"], apart := false, laid := [("kinkeep/sha256.initial", laid_kinkeep_sha256_initial), ("kinkeep/sha256.constants", laid_kinkeep_sha256_constants)], narrowed := true }
def Sha256StateUptoSaid : Prop := sha256StateUptoRow.holds Tryd.pinned (OpenSpec.upto sha256StateSpec)

end Rows
end Go.Proofs.YtiakmpnmooobbaaDoor
