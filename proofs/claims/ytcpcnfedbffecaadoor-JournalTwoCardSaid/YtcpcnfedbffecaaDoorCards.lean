/-
  DERIVED. GIVEN WITH THE SEED: THE CARDS: each row of YtcpcnfedbffecaaDoorRows.lean that lists a variable, with what it lists TIED to the program's text (the seventh form; the later family's looks); each row that meets fmt, with fmt's text TOLD by the authors' own Lean function (tested against real Go, not proved from fmt's source: count such statements apart). THE CARD IS WHAT COUNTS. Prove the row's statement (the work); the ties are given (YtcpcnfedbffecaaDoorTie.lean); close each card by the builder's one call (the guide's Derived/Test/ToyasCard.lean, 'card_holds'). Laid BY PROGRAM, IN A SANDBOX (cutbox-door.mjs). By AI agents, Wed Nov 11 2026. No macro, syntax, notation, axiom, sorry.
-/
import Derived.Test.YtcpcnfedbffecaaDoorRows
import GoSem.ClaimSeven
namespace Go.Proofs.YtcpcnfedbffecaaDoor
namespace Rows

/-- THE TIED CARD OF 'kinkeeplaw17.JournalLeft'. -/
def journalLeftCard : Claim7 := { stood := { row := journalLeftRow, standIns := [], harness := (true, "ef5ea625a608967aa640be21f7326fd11bc547701723ec07ced317cc5ad3e1c4"), looks := false }, kinds := [], alts := [], laidByText := true, laidKinds := [.data, .data], laidTests := true, laidLooks := .later }
def JournalLeftCardSaid : Prop := Claim7.holds Tryd.pinned (.plain (OpenSpec.ofChange journalLeftSpec)) journalLeftCard

/-- THE TIED CARD OF 'kinkeeplaw17.JournalTwo'. -/
def journalTwoCard : Claim7 := { stood := { row := journalTwoRow, standIns := [], harness := (true, "ef5ea625a608967aa640be21f7326fd11bc547701723ec07ced317cc5ad3e1c4"), looks := false }, kinds := [], alts := [], laidByText := true, laidKinds := [.data, .data], laidTests := true, laidLooks := .later }
def JournalTwoCardSaid : Prop := Claim7.holds Tryd.pinned (.plain (OpenSpec.ofChange journalTwoSpec)) journalTwoCard

/-- THE TIED CARD OF 'kinkeeplaw17.JournalOpens'. -/
def journalOpensCard : Claim7 := { stood := { row := journalOpensRow, standIns := [], harness := (true, "ef5ea625a608967aa640be21f7326fd11bc547701723ec07ced317cc5ad3e1c4"), looks := false }, kinds := [], alts := [], laidByText := true, laidKinds := [.data, .data], laidTests := true, laidLooks := .later }
def JournalOpensCardSaid : Prop := Claim7.holds Tryd.pinned (.plain (OpenSpec.ofChange journalOpensSpec)) journalOpensCard

/-- THE SECOND FORM's CARD OF 'kinkeeplaw17.JournalLeft'. -/
def journalLeftUptoCard : Claim7 := { stood := { row := journalLeftUptoRow, standIns := [], harness := (true, "ef5ea625a608967aa640be21f7326fd11bc547701723ec07ced317cc5ad3e1c4"), looks := false }, kinds := [], alts := [], laidByText := true, laidKinds := [.data, .data], laidTests := true, laidLooks := .later }
def JournalLeftUptoCardSaid : Prop := Claim7.holds Tryd.pinned (.plain (OpenSpec.upto journalLeftSpec)) journalLeftUptoCard

/-- THE SECOND FORM's CARD OF 'kinkeeplaw17.JournalTwo'. -/
def journalTwoUptoCard : Claim7 := { stood := { row := journalTwoUptoRow, standIns := [], harness := (true, "ef5ea625a608967aa640be21f7326fd11bc547701723ec07ced317cc5ad3e1c4"), looks := false }, kinds := [], alts := [], laidByText := true, laidKinds := [.data, .data], laidTests := true, laidLooks := .later }
def JournalTwoUptoCardSaid : Prop := Claim7.holds Tryd.pinned (.plain (OpenSpec.upto journalTwoSpec)) journalTwoUptoCard

/-- THE SECOND FORM's CARD OF 'kinkeeplaw17.JournalOpens'. -/
def journalOpensUptoCard : Claim7 := { stood := { row := journalOpensUptoRow, standIns := [], harness := (true, "ef5ea625a608967aa640be21f7326fd11bc547701723ec07ced317cc5ad3e1c4"), looks := false }, kinds := [], alts := [], laidByText := true, laidKinds := [.data, .data], laidTests := true, laidLooks := .later }
def JournalOpensUptoCardSaid : Prop := Claim7.holds Tryd.pinned (.plain (OpenSpec.upto journalOpensSpec)) journalOpensUptoCard
end Rows
end Go.Proofs.YtcpcnfedbffecaaDoor
