/-
  DERIVED. GIVEN WITH THE SEED: THE CARDS: each row of YtggiinfeiilogaaDoorRows.lean that lists a variable, with what it lists TIED to the program's text (the seventh form; the later family's looks); each row that meets fmt, with fmt's text TOLD by the authors' own Lean function (tested against real Go, not proved from fmt's source: count such statements apart). THE CARD IS WHAT COUNTS. Prove the row's statement (the work); the ties are given (YtggiinfeiilogaaDoorTie.lean); close each card by the builder's one call (the guide's Derived/Test/ToyasCard.lean, 'card_holds'). Laid BY PROGRAM, IN A SANDBOX (cutbox-door.mjs). By AI agents, Wed Nov 11 2026. No macro, syntax, notation, axiom, sorry.
-/
import Derived.Test.YtggiinfeiilogaaDoorRows
import GoSem.ClaimSeven
namespace Go.Proofs.YtggiinfeiilogaaDoor
namespace Rows

/-- THE TIED CARD OF 'kinkeeptop.TopBudgets'. -/
def topBudgetsCard : Claim7 := { stood := { row := topBudgetsRow, standIns := [], harness := (true, "6cdfd461a26bab2e046b6b1e4ee204e6974ed90046f0742754f2d674c3a7932b"), looks := false }, kinds := [], alts := [], laidByText := true, laidKinds := [.data, .data], laidTests := true, laidLooks := .later }
def TopBudgetsCardSaid : Prop := Claim7.holds Tryd.pinned (.plain (OpenSpec.ofChange topBudgetsSpec)) topBudgetsCard

/-- THE TIED CARD OF 'kinkeeplaw37.FrameEncodes'. -/
def frameEncodesCard : Claim7 := { stood := { row := frameEncodesRow, standIns := [], harness := (true, "6cdfd461a26bab2e046b6b1e4ee204e6974ed90046f0742754f2d674c3a7932b"), looks := false }, kinds := [], alts := [], laidByText := true, laidKinds := [.data, .data], laidTests := true, laidLooks := .later }
def FrameEncodesCardSaid : Prop := Claim7.holds Tryd.pinned (.plain (OpenSpec.ofChange frameEncodesSpec)) frameEncodesCard

/-- THE TIED CARD OF 'kinkeeplaw37.FrameCosts'. -/
def frameCostsCard : Claim7 := { stood := { row := frameCostsRow, standIns := [], harness := (true, "6cdfd461a26bab2e046b6b1e4ee204e6974ed90046f0742754f2d674c3a7932b"), looks := false }, kinds := [], alts := [], laidByText := true, laidKinds := [.data, .data], laidTests := true, laidLooks := .later }
def FrameCostsCardSaid : Prop := Claim7.holds Tryd.pinned (.plain (OpenSpec.ofChange frameCostsSpec)) frameCostsCard

/-- THE TIED CARD OF 'kinkeeplaw37.FrameDecodes'. -/
def frameDecodesCard : Claim7 := { stood := { row := frameDecodesRow, standIns := [], harness := (true, "6cdfd461a26bab2e046b6b1e4ee204e6974ed90046f0742754f2d674c3a7932b"), looks := false }, kinds := [], alts := [], laidByText := true, laidKinds := [.data, .data], laidTests := true, laidLooks := .later }
def FrameDecodesCardSaid : Prop := Claim7.holds Tryd.pinned (.plain (OpenSpec.ofChange frameDecodesSpec)) frameDecodesCard

/-- THE TIED CARD OF 'kinkeeplaw37.FrameReturns'. -/
def frameReturnsCard : Claim7 := { stood := { row := frameReturnsRow, standIns := [], harness := (true, "6cdfd461a26bab2e046b6b1e4ee204e6974ed90046f0742754f2d674c3a7932b"), looks := false }, kinds := [], alts := [], laidByText := true, laidKinds := [.data, .data], laidTests := true, laidLooks := .later }
def FrameReturnsCardSaid : Prop := Claim7.holds Tryd.pinned (.plain (OpenSpec.ofChange frameReturnsSpec)) frameReturnsCard

/-- THE TIED CARD OF 'kinkeeplaw37.FrameRefuses'. -/
def frameRefusesCard : Claim7 := { stood := { row := frameRefusesRow, standIns := [], harness := (true, "6cdfd461a26bab2e046b6b1e4ee204e6974ed90046f0742754f2d674c3a7932b"), looks := false }, kinds := [], alts := [], laidByText := true, laidKinds := [.data, .data], laidTests := true, laidLooks := .later }
def FrameRefusesCardSaid : Prop := Claim7.holds Tryd.pinned (.plain (OpenSpec.ofChange frameRefusesSpec)) frameRefusesCard

/-- THE TIED CARD OF 'kinkeeplaw37.FrameBefore'. -/
def frameBeforeCard : Claim7 := { stood := { row := frameBeforeRow, standIns := [], harness := (true, "6cdfd461a26bab2e046b6b1e4ee204e6974ed90046f0742754f2d674c3a7932b"), looks := false }, kinds := [], alts := [], laidByText := true, laidKinds := [.data, .data], laidTests := true, laidLooks := .later }
def FrameBeforeCardSaid : Prop := Claim7.holds Tryd.pinned (.plain (OpenSpec.ofChange frameBeforeSpec)) frameBeforeCard

/-- THE TIED CARD OF 'kinkeeplaw37.FrameSticks'. -/
def frameSticksCard : Claim7 := { stood := { row := frameSticksRow, standIns := [], harness := (true, "6cdfd461a26bab2e046b6b1e4ee204e6974ed90046f0742754f2d674c3a7932b"), looks := false }, kinds := [], alts := [], laidByText := true, laidKinds := [.data, .data], laidTests := true, laidLooks := .later }
def FrameSticksCardSaid : Prop := Claim7.holds Tryd.pinned (.plain (OpenSpec.ofChange frameSticksSpec)) frameSticksCard

/-- THE TIED CARD OF 'kinkeeplaw37.FrameSplits'. -/
def frameSplitsCard : Claim7 := { stood := { row := frameSplitsRow, standIns := [], harness := (true, "6cdfd461a26bab2e046b6b1e4ee204e6974ed90046f0742754f2d674c3a7932b"), looks := false }, kinds := [], alts := [], laidByText := true, laidKinds := [.data, .data], laidTests := true, laidLooks := .later }
def FrameSplitsCardSaid : Prop := Claim7.holds Tryd.pinned (.plain (OpenSpec.ofChange frameSplitsSpec)) frameSplitsCard

/-- THE TIED CARD OF 'kinkeeplaw37.FrameFits'. -/
def frameFitsCard : Claim7 := { stood := { row := frameFitsRow, standIns := [], harness := (true, "6cdfd461a26bab2e046b6b1e4ee204e6974ed90046f0742754f2d674c3a7932b"), looks := false }, kinds := [], alts := [], laidByText := true, laidKinds := [.data, .data], laidTests := true, laidLooks := .later }
def FrameFitsCardSaid : Prop := Claim7.holds Tryd.pinned (.plain (OpenSpec.ofChange frameFitsSpec)) frameFitsCard

/-- THE TIED CARD OF 'kinkeeplaw37.FrameJoins'. -/
def frameJoinsCard : Claim7 := { stood := { row := frameJoinsRow, standIns := [], harness := (true, "6cdfd461a26bab2e046b6b1e4ee204e6974ed90046f0742754f2d674c3a7932b"), looks := false }, kinds := [], alts := [], laidByText := true, laidKinds := [.data, .data], laidTests := true, laidLooks := .later }
def FrameJoinsCardSaid : Prop := Claim7.holds Tryd.pinned (.plain (OpenSpec.ofChange frameJoinsSpec)) frameJoinsCard

/-- THE TIED CARD OF 'kinkeeplaw37.FrameInverts'. -/
def frameInvertsCard : Claim7 := { stood := { row := frameInvertsRow, standIns := [], harness := (true, "6cdfd461a26bab2e046b6b1e4ee204e6974ed90046f0742754f2d674c3a7932b"), looks := false }, kinds := [], alts := [], laidByText := true, laidKinds := [.data, .data], laidTests := true, laidLooks := .later }
def FrameInvertsCardSaid : Prop := Claim7.holds Tryd.pinned (.plain (OpenSpec.ofChange frameInvertsSpec)) frameInvertsCard

/-- THE SECOND FORM's CARD OF 'kinkeeptop.TopBudgets'. -/
def topBudgetsUptoCard : Claim7 := { stood := { row := topBudgetsUptoRow, standIns := [], harness := (true, "6cdfd461a26bab2e046b6b1e4ee204e6974ed90046f0742754f2d674c3a7932b"), looks := false }, kinds := [], alts := [], laidByText := true, laidKinds := [.data, .data], laidTests := true, laidLooks := .later }
def TopBudgetsUptoCardSaid : Prop := Claim7.holds Tryd.pinned (.plain (OpenSpec.upto topBudgetsSpec)) topBudgetsUptoCard

/-- THE SECOND FORM's CARD OF 'kinkeeplaw37.FrameEncodes'. -/
def frameEncodesUptoCard : Claim7 := { stood := { row := frameEncodesUptoRow, standIns := [], harness := (true, "6cdfd461a26bab2e046b6b1e4ee204e6974ed90046f0742754f2d674c3a7932b"), looks := false }, kinds := [], alts := [], laidByText := true, laidKinds := [.data, .data], laidTests := true, laidLooks := .later }
def FrameEncodesUptoCardSaid : Prop := Claim7.holds Tryd.pinned (.plain (OpenSpec.upto frameEncodesSpec)) frameEncodesUptoCard

/-- THE SECOND FORM's CARD OF 'kinkeeplaw37.FrameCosts'. -/
def frameCostsUptoCard : Claim7 := { stood := { row := frameCostsUptoRow, standIns := [], harness := (true, "6cdfd461a26bab2e046b6b1e4ee204e6974ed90046f0742754f2d674c3a7932b"), looks := false }, kinds := [], alts := [], laidByText := true, laidKinds := [.data, .data], laidTests := true, laidLooks := .later }
def FrameCostsUptoCardSaid : Prop := Claim7.holds Tryd.pinned (.plain (OpenSpec.upto frameCostsSpec)) frameCostsUptoCard

/-- THE SECOND FORM's CARD OF 'kinkeeplaw37.FrameDecodes'. -/
def frameDecodesUptoCard : Claim7 := { stood := { row := frameDecodesUptoRow, standIns := [], harness := (true, "6cdfd461a26bab2e046b6b1e4ee204e6974ed90046f0742754f2d674c3a7932b"), looks := false }, kinds := [], alts := [], laidByText := true, laidKinds := [.data, .data], laidTests := true, laidLooks := .later }
def FrameDecodesUptoCardSaid : Prop := Claim7.holds Tryd.pinned (.plain (OpenSpec.upto frameDecodesSpec)) frameDecodesUptoCard

/-- THE SECOND FORM's CARD OF 'kinkeeplaw37.FrameReturns'. -/
def frameReturnsUptoCard : Claim7 := { stood := { row := frameReturnsUptoRow, standIns := [], harness := (true, "6cdfd461a26bab2e046b6b1e4ee204e6974ed90046f0742754f2d674c3a7932b"), looks := false }, kinds := [], alts := [], laidByText := true, laidKinds := [.data, .data], laidTests := true, laidLooks := .later }
def FrameReturnsUptoCardSaid : Prop := Claim7.holds Tryd.pinned (.plain (OpenSpec.upto frameReturnsSpec)) frameReturnsUptoCard

/-- THE SECOND FORM's CARD OF 'kinkeeplaw37.FrameRefuses'. -/
def frameRefusesUptoCard : Claim7 := { stood := { row := frameRefusesUptoRow, standIns := [], harness := (true, "6cdfd461a26bab2e046b6b1e4ee204e6974ed90046f0742754f2d674c3a7932b"), looks := false }, kinds := [], alts := [], laidByText := true, laidKinds := [.data, .data], laidTests := true, laidLooks := .later }
def FrameRefusesUptoCardSaid : Prop := Claim7.holds Tryd.pinned (.plain (OpenSpec.upto frameRefusesSpec)) frameRefusesUptoCard

/-- THE SECOND FORM's CARD OF 'kinkeeplaw37.FrameBefore'. -/
def frameBeforeUptoCard : Claim7 := { stood := { row := frameBeforeUptoRow, standIns := [], harness := (true, "6cdfd461a26bab2e046b6b1e4ee204e6974ed90046f0742754f2d674c3a7932b"), looks := false }, kinds := [], alts := [], laidByText := true, laidKinds := [.data, .data], laidTests := true, laidLooks := .later }
def FrameBeforeUptoCardSaid : Prop := Claim7.holds Tryd.pinned (.plain (OpenSpec.upto frameBeforeSpec)) frameBeforeUptoCard

/-- THE SECOND FORM's CARD OF 'kinkeeplaw37.FrameSticks'. -/
def frameSticksUptoCard : Claim7 := { stood := { row := frameSticksUptoRow, standIns := [], harness := (true, "6cdfd461a26bab2e046b6b1e4ee204e6974ed90046f0742754f2d674c3a7932b"), looks := false }, kinds := [], alts := [], laidByText := true, laidKinds := [.data, .data], laidTests := true, laidLooks := .later }
def FrameSticksUptoCardSaid : Prop := Claim7.holds Tryd.pinned (.plain (OpenSpec.upto frameSticksSpec)) frameSticksUptoCard

/-- THE SECOND FORM's CARD OF 'kinkeeplaw37.FrameSplits'. -/
def frameSplitsUptoCard : Claim7 := { stood := { row := frameSplitsUptoRow, standIns := [], harness := (true, "6cdfd461a26bab2e046b6b1e4ee204e6974ed90046f0742754f2d674c3a7932b"), looks := false }, kinds := [], alts := [], laidByText := true, laidKinds := [.data, .data], laidTests := true, laidLooks := .later }
def FrameSplitsUptoCardSaid : Prop := Claim7.holds Tryd.pinned (.plain (OpenSpec.upto frameSplitsSpec)) frameSplitsUptoCard

/-- THE SECOND FORM's CARD OF 'kinkeeplaw37.FrameFits'. -/
def frameFitsUptoCard : Claim7 := { stood := { row := frameFitsUptoRow, standIns := [], harness := (true, "6cdfd461a26bab2e046b6b1e4ee204e6974ed90046f0742754f2d674c3a7932b"), looks := false }, kinds := [], alts := [], laidByText := true, laidKinds := [.data, .data], laidTests := true, laidLooks := .later }
def FrameFitsUptoCardSaid : Prop := Claim7.holds Tryd.pinned (.plain (OpenSpec.upto frameFitsSpec)) frameFitsUptoCard

/-- THE SECOND FORM's CARD OF 'kinkeeplaw37.FrameJoins'. -/
def frameJoinsUptoCard : Claim7 := { stood := { row := frameJoinsUptoRow, standIns := [], harness := (true, "6cdfd461a26bab2e046b6b1e4ee204e6974ed90046f0742754f2d674c3a7932b"), looks := false }, kinds := [], alts := [], laidByText := true, laidKinds := [.data, .data], laidTests := true, laidLooks := .later }
def FrameJoinsUptoCardSaid : Prop := Claim7.holds Tryd.pinned (.plain (OpenSpec.upto frameJoinsSpec)) frameJoinsUptoCard

/-- THE SECOND FORM's CARD OF 'kinkeeplaw37.FrameInverts'. -/
def frameInvertsUptoCard : Claim7 := { stood := { row := frameInvertsUptoRow, standIns := [], harness := (true, "6cdfd461a26bab2e046b6b1e4ee204e6974ed90046f0742754f2d674c3a7932b"), looks := false }, kinds := [], alts := [], laidByText := true, laidKinds := [.data, .data], laidTests := true, laidLooks := .later }
def FrameInvertsUptoCardSaid : Prop := Claim7.holds Tryd.pinned (.plain (OpenSpec.upto frameInvertsSpec)) frameInvertsUptoCard
end Rows
end Go.Proofs.YtggiinfeiilogaaDoor
