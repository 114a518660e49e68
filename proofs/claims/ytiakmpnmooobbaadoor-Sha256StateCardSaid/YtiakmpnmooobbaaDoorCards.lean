/-
  DERIVED. GIVEN WITH THE SEED: THE CARDS: each row of YtiakmpnmooobbaaDoorRows.lean that lists a variable, with what it lists TIED to the program's text (the seventh form; the later family's looks); each row that meets fmt, with fmt's text TOLD by the authors' own Lean function (tested against real Go, not proved from fmt's source: count such statements apart). THE CARD IS WHAT COUNTS. Prove the row's statement (the work); the ties are given (YtiakmpnmooobbaaDoorTie.lean); close each card by the builder's one call (the guide's Derived/Test/ToyasCard.lean, 'card_holds'). Laid BY PROGRAM, IN A SANDBOX (cutbox-door.mjs). By AI agents, Wed Nov 11 2026. No macro, syntax, notation, axiom, sorry.
-/
import Derived.Test.YtiakmpnmooobbaaDoorRows
import GoSem.ClaimSeven
namespace Go.Proofs.YtiakmpnmooobbaaDoor
namespace Rows

/-- THE TIED CARD OF 'kinkeeplaw03.Sha256Sums'. -/
def sha256SumsCard : Claim7 := { stood := { row := sha256SumsRow, standIns := [], harness := (true, "410f2ff3df5184a65f9301da5547632ecdcb2e4f3e4b1117f6921aba57d552bc"), looks := false }, kinds := [], alts := [], laidByText := true, laidKinds := [.data, .data], laidTests := true, laidLooks := .later }
def Sha256SumsCardSaid : Prop := Claim7.holds Tryd.pinned (.plain (OpenSpec.ofChange sha256SumsSpec)) sha256SumsCard

/-- THE TIED CARD OF 'kinkeeplaw03.Sha256Joins'. -/
def sha256JoinsCard : Claim7 := { stood := { row := sha256JoinsRow, standIns := [], harness := (true, "410f2ff3df5184a65f9301da5547632ecdcb2e4f3e4b1117f6921aba57d552bc"), looks := false }, kinds := [], alts := [], laidByText := true, laidKinds := [.data, .data], laidTests := true, laidLooks := .later }
def Sha256JoinsCardSaid : Prop := Claim7.holds Tryd.pinned (.plain (OpenSpec.ofChange sha256JoinsSpec)) sha256JoinsCard

/-- THE TIED CARD OF 'kinkeeplaw03.Sha256Hex'. -/
def sha256HexCard : Claim7 := { stood := { row := sha256HexRow, standIns := [], harness := (true, "410f2ff3df5184a65f9301da5547632ecdcb2e4f3e4b1117f6921aba57d552bc"), looks := false }, kinds := [], alts := [], laidByText := true, laidKinds := [.data, .data], laidTests := true, laidLooks := .later }
def Sha256HexCardSaid : Prop := Claim7.holds Tryd.pinned (.plain (OpenSpec.ofChange sha256HexSpec)) sha256HexCard

/-- THE TIED CARD OF 'kinkeeplaw03.Sha256Digits'. -/
def sha256DigitsCard : Claim7 := { stood := { row := sha256DigitsRow, standIns := [], harness := (true, "410f2ff3df5184a65f9301da5547632ecdcb2e4f3e4b1117f6921aba57d552bc"), looks := false }, kinds := [], alts := [], laidByText := true, laidKinds := [.data, .data], laidTests := true, laidLooks := .later }
def Sha256DigitsCardSaid : Prop := Claim7.holds Tryd.pinned (.plain (OpenSpec.ofChange sha256DigitsSpec)) sha256DigitsCard

/-- THE TIED CARD OF 'kinkeeplaw03.Sha256Inverts'. -/
def sha256InvertsCard : Claim7 := { stood := { row := sha256InvertsRow, standIns := [], harness := (true, "410f2ff3df5184a65f9301da5547632ecdcb2e4f3e4b1117f6921aba57d552bc"), looks := false }, kinds := [], alts := [], laidByText := true, laidKinds := [.data, .data], laidTests := true, laidLooks := .later }
def Sha256InvertsCardSaid : Prop := Claim7.holds Tryd.pinned (.plain (OpenSpec.ofChange sha256InvertsSpec)) sha256InvertsCard

/-- THE TIED CARD OF 'kinkeeplaw03.Sha256Pieces'. -/
def sha256PiecesCard : Claim7 := { stood := { row := sha256PiecesRow, standIns := [], harness := (true, "410f2ff3df5184a65f9301da5547632ecdcb2e4f3e4b1117f6921aba57d552bc"), looks := false }, kinds := [], alts := [], laidByText := true, laidKinds := [.data, .data], laidTests := true, laidLooks := .later }
def Sha256PiecesCardSaid : Prop := Claim7.holds Tryd.pinned (.plain (OpenSpec.ofChange sha256PiecesSpec)) sha256PiecesCard

/-- THE TIED CARD OF 'kinkeeplaw03.Sha256Clones'. -/
def sha256ClonesCard : Claim7 := { stood := { row := sha256ClonesRow, standIns := [], harness := (true, "410f2ff3df5184a65f9301da5547632ecdcb2e4f3e4b1117f6921aba57d552bc"), looks := false }, kinds := [], alts := [], laidByText := true, laidKinds := [.data, .data], laidTests := true, laidLooks := .later }
def Sha256ClonesCardSaid : Prop := Claim7.holds Tryd.pinned (.plain (OpenSpec.ofChange sha256ClonesSpec)) sha256ClonesCard

/-- THE TIED CARD OF 'kinkeeplaw03.Sha256State'. -/
def sha256StateCard : Claim7 := { stood := { row := sha256StateRow, standIns := [], harness := (true, "410f2ff3df5184a65f9301da5547632ecdcb2e4f3e4b1117f6921aba57d552bc"), looks := false }, kinds := [], alts := [], laidByText := true, laidKinds := [.data, .data], laidTests := true, laidLooks := .later }
def Sha256StateCardSaid : Prop := Claim7.holds Tryd.pinned (.plain (OpenSpec.ofChange sha256StateSpec)) sha256StateCard

/-- THE SECOND FORM's CARD OF 'kinkeeplaw03.Sha256Sums'. -/
def sha256SumsUptoCard : Claim7 := { stood := { row := sha256SumsUptoRow, standIns := [], harness := (true, "410f2ff3df5184a65f9301da5547632ecdcb2e4f3e4b1117f6921aba57d552bc"), looks := false }, kinds := [], alts := [], laidByText := true, laidKinds := [.data, .data], laidTests := true, laidLooks := .later }
def Sha256SumsUptoCardSaid : Prop := Claim7.holds Tryd.pinned (.plain (OpenSpec.upto sha256SumsSpec)) sha256SumsUptoCard

/-- THE SECOND FORM's CARD OF 'kinkeeplaw03.Sha256Joins'. -/
def sha256JoinsUptoCard : Claim7 := { stood := { row := sha256JoinsUptoRow, standIns := [], harness := (true, "410f2ff3df5184a65f9301da5547632ecdcb2e4f3e4b1117f6921aba57d552bc"), looks := false }, kinds := [], alts := [], laidByText := true, laidKinds := [.data, .data], laidTests := true, laidLooks := .later }
def Sha256JoinsUptoCardSaid : Prop := Claim7.holds Tryd.pinned (.plain (OpenSpec.upto sha256JoinsSpec)) sha256JoinsUptoCard

/-- THE SECOND FORM's CARD OF 'kinkeeplaw03.Sha256Hex'. -/
def sha256HexUptoCard : Claim7 := { stood := { row := sha256HexUptoRow, standIns := [], harness := (true, "410f2ff3df5184a65f9301da5547632ecdcb2e4f3e4b1117f6921aba57d552bc"), looks := false }, kinds := [], alts := [], laidByText := true, laidKinds := [.data, .data], laidTests := true, laidLooks := .later }
def Sha256HexUptoCardSaid : Prop := Claim7.holds Tryd.pinned (.plain (OpenSpec.upto sha256HexSpec)) sha256HexUptoCard

/-- THE SECOND FORM's CARD OF 'kinkeeplaw03.Sha256Digits'. -/
def sha256DigitsUptoCard : Claim7 := { stood := { row := sha256DigitsUptoRow, standIns := [], harness := (true, "410f2ff3df5184a65f9301da5547632ecdcb2e4f3e4b1117f6921aba57d552bc"), looks := false }, kinds := [], alts := [], laidByText := true, laidKinds := [.data, .data], laidTests := true, laidLooks := .later }
def Sha256DigitsUptoCardSaid : Prop := Claim7.holds Tryd.pinned (.plain (OpenSpec.upto sha256DigitsSpec)) sha256DigitsUptoCard

/-- THE SECOND FORM's CARD OF 'kinkeeplaw03.Sha256Inverts'. -/
def sha256InvertsUptoCard : Claim7 := { stood := { row := sha256InvertsUptoRow, standIns := [], harness := (true, "410f2ff3df5184a65f9301da5547632ecdcb2e4f3e4b1117f6921aba57d552bc"), looks := false }, kinds := [], alts := [], laidByText := true, laidKinds := [.data, .data], laidTests := true, laidLooks := .later }
def Sha256InvertsUptoCardSaid : Prop := Claim7.holds Tryd.pinned (.plain (OpenSpec.upto sha256InvertsSpec)) sha256InvertsUptoCard

/-- THE SECOND FORM's CARD OF 'kinkeeplaw03.Sha256Pieces'. -/
def sha256PiecesUptoCard : Claim7 := { stood := { row := sha256PiecesUptoRow, standIns := [], harness := (true, "410f2ff3df5184a65f9301da5547632ecdcb2e4f3e4b1117f6921aba57d552bc"), looks := false }, kinds := [], alts := [], laidByText := true, laidKinds := [.data, .data], laidTests := true, laidLooks := .later }
def Sha256PiecesUptoCardSaid : Prop := Claim7.holds Tryd.pinned (.plain (OpenSpec.upto sha256PiecesSpec)) sha256PiecesUptoCard

/-- THE SECOND FORM's CARD OF 'kinkeeplaw03.Sha256Clones'. -/
def sha256ClonesUptoCard : Claim7 := { stood := { row := sha256ClonesUptoRow, standIns := [], harness := (true, "410f2ff3df5184a65f9301da5547632ecdcb2e4f3e4b1117f6921aba57d552bc"), looks := false }, kinds := [], alts := [], laidByText := true, laidKinds := [.data, .data], laidTests := true, laidLooks := .later }
def Sha256ClonesUptoCardSaid : Prop := Claim7.holds Tryd.pinned (.plain (OpenSpec.upto sha256ClonesSpec)) sha256ClonesUptoCard

/-- THE SECOND FORM's CARD OF 'kinkeeplaw03.Sha256State'. -/
def sha256StateUptoCard : Claim7 := { stood := { row := sha256StateUptoRow, standIns := [], harness := (true, "410f2ff3df5184a65f9301da5547632ecdcb2e4f3e4b1117f6921aba57d552bc"), looks := false }, kinds := [], alts := [], laidByText := true, laidKinds := [.data, .data], laidTests := true, laidLooks := .later }
def Sha256StateUptoCardSaid : Prop := Claim7.holds Tryd.pinned (.plain (OpenSpec.upto sha256StateSpec)) sha256StateUptoCard
end Rows
end Go.Proofs.YtiakmpnmooobbaaDoor
