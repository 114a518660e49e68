/-
  DERIVED. GIVEN WITH THE SEED: THE CARDS: each row of YtghhjopclkhpnaaDoorRows.lean that lists a variable, with what it lists TIED to the program's text (the seventh form; the later family's looks); each row that meets fmt, with fmt's text TOLD by the authors' own Lean function (tested against real Go, not proved from fmt's source: count such statements apart). THE CARD IS WHAT COUNTS. Prove the row's statement (the work); the ties are given (YtghhjopclkhpnaaDoorTie.lean); close each card by the builder's one call (the guide's Derived/Test/ToyasCard.lean, 'card_holds'). Laid BY PROGRAM, IN A SANDBOX (cutbox-door.mjs). By AI agents, Wed Nov 11 2026. No macro, syntax, notation, axiom, sorry.
-/
import Derived.Test.YtghhjopclkhpnaaDoorRows
import GoSem.ClaimSeven
namespace Go.Proofs.YtghhjopclkhpnaaDoor
namespace Rows

/-- THE TIED CARD OF 'kinkeeplaw05.HmacTags'. -/
def hmacTagsCard : Claim7 := { stood := { row := hmacTagsRow, standIns := [], harness := (true, "a8f33f3f4991ec14a2bd2ca4053201376384bae44c8a1986e871a4859307e141"), looks := false }, kinds := [], alts := [], laidByText := true, laidKinds := [.data, .data, .data], laidTests := true, laidLooks := .later }
def HmacTagsCardSaid : Prop := Claim7.holds Tryd.pinned (.plain (OpenSpec.ofChange hmacTagsSpec)) hmacTagsCard

/-- THE TIED CARD OF 'kinkeeplaw05.HmacStreams'. -/
def hmacStreamsCard : Claim7 := { stood := { row := hmacStreamsRow, standIns := [], harness := (true, "a8f33f3f4991ec14a2bd2ca4053201376384bae44c8a1986e871a4859307e141"), looks := false }, kinds := [], alts := [], laidByText := true, laidKinds := [.data, .data, .data], laidTests := true, laidLooks := .later }
def HmacStreamsCardSaid : Prop := Claim7.holds Tryd.pinned (.plain (OpenSpec.ofChange hmacStreamsSpec)) hmacStreamsCard

/-- THE TIED CARD OF 'kinkeeplaw05.HmacExtracts'. -/
def hmacExtractsCard : Claim7 := { stood := { row := hmacExtractsRow, standIns := [], harness := (true, "a8f33f3f4991ec14a2bd2ca4053201376384bae44c8a1986e871a4859307e141"), looks := false }, kinds := [], alts := [], laidByText := true, laidKinds := [.data, .data, .data], laidTests := true, laidLooks := .later }
def HmacExtractsCardSaid : Prop := Claim7.holds Tryd.pinned (.plain (OpenSpec.ofChange hmacExtractsSpec)) hmacExtractsCard

/-- THE TIED CARD OF 'kinkeeplaw05.HmacExpands'. -/
def hmacExpandsCard : Claim7 := { stood := { row := hmacExpandsRow, standIns := [], harness := (true, "a8f33f3f4991ec14a2bd2ca4053201376384bae44c8a1986e871a4859307e141"), looks := false }, kinds := [], alts := [], laidByText := true, laidKinds := [.data, .data, .data], laidTests := true, laidLooks := .later }
def HmacExpandsCardSaid : Prop := Claim7.holds Tryd.pinned (.plain (OpenSpec.ofChange hmacExpandsSpec)) hmacExpandsCard

/-- THE TIED CARD OF 'kinkeeplaw05.HmacPrefix'. -/
def hmacPrefixCard : Claim7 := { stood := { row := hmacPrefixRow, standIns := [], harness := (true, "a8f33f3f4991ec14a2bd2ca4053201376384bae44c8a1986e871a4859307e141"), looks := false }, kinds := [], alts := [], laidByText := true, laidKinds := [.data, .data, .data], laidTests := true, laidLooks := .later }
def HmacPrefixCardSaid : Prop := Claim7.holds Tryd.pinned (.plain (OpenSpec.ofChange hmacPrefixSpec)) hmacPrefixCard

/-- THE TIED CARD OF 'kinkeeplaw05.HmacEqual'. -/
def hmacEqualCard : Claim7 := { stood := { row := hmacEqualRow, standIns := [], harness := (true, "a8f33f3f4991ec14a2bd2ca4053201376384bae44c8a1986e871a4859307e141"), looks := false }, kinds := [], alts := [], laidByText := true, laidKinds := [.data, .data, .data], laidTests := true, laidLooks := .later }
def HmacEqualCardSaid : Prop := Claim7.holds Tryd.pinned (.plain (OpenSpec.ofChange hmacEqualSpec)) hmacEqualCard

/-- THE TIED CARD OF 'kinkeeplaw05.HmacKeys'. -/
def hmacKeysCard : Claim7 := { stood := { row := hmacKeysRow, standIns := [], harness := (true, "a8f33f3f4991ec14a2bd2ca4053201376384bae44c8a1986e871a4859307e141"), looks := false }, kinds := [], alts := [], laidByText := true, laidKinds := [.data, .data, .data], laidTests := true, laidLooks := .later }
def HmacKeysCardSaid : Prop := Claim7.holds Tryd.pinned (.plain (OpenSpec.ofChange hmacKeysSpec)) hmacKeysCard

/-- THE TIED CARD OF 'kinkeeplaw05.HmacDerives'. -/
def hmacDerivesCard : Claim7 := { stood := { row := hmacDerivesRow, standIns := [], harness := (true, "a8f33f3f4991ec14a2bd2ca4053201376384bae44c8a1986e871a4859307e141"), looks := false }, kinds := [], alts := [], laidByText := true, laidKinds := [.data, .data, .data], laidTests := true, laidLooks := .later }
def HmacDerivesCardSaid : Prop := Claim7.holds Tryd.pinned (.plain (OpenSpec.ofChange hmacDerivesSpec)) hmacDerivesCard

/-- THE TIED CARD OF 'kinkeeplaw05.HmacLabels'. -/
def hmacLabelsCard : Claim7 := { stood := { row := hmacLabelsRow, standIns := [], harness := (true, "a8f33f3f4991ec14a2bd2ca4053201376384bae44c8a1986e871a4859307e141"), looks := false }, kinds := [], alts := [], laidByText := true, laidKinds := [.data, .data, .data], laidTests := true, laidLooks := .later }
def HmacLabelsCardSaid : Prop := Claim7.holds Tryd.pinned (.plain (OpenSpec.ofChange hmacLabelsSpec)) hmacLabelsCard

/-- THE TIED CARD OF 'kinkeeplaw05.HmacChains'. -/
def hmacChainsCard : Claim7 := { stood := { row := hmacChainsRow, standIns := [], harness := (true, "a8f33f3f4991ec14a2bd2ca4053201376384bae44c8a1986e871a4859307e141"), looks := false }, kinds := [], alts := [], laidByText := true, laidKinds := [.data, .data, .data], laidTests := true, laidLooks := .later }
def HmacChainsCardSaid : Prop := Claim7.holds Tryd.pinned (.plain (OpenSpec.ofChange hmacChainsSpec)) hmacChainsCard

/-- THE SECOND FORM's CARD OF 'kinkeeplaw05.HmacTags'. -/
def hmacTagsUptoCard : Claim7 := { stood := { row := hmacTagsUptoRow, standIns := [], harness := (true, "a8f33f3f4991ec14a2bd2ca4053201376384bae44c8a1986e871a4859307e141"), looks := false }, kinds := [], alts := [], laidByText := true, laidKinds := [.data, .data, .data], laidTests := true, laidLooks := .later }
def HmacTagsUptoCardSaid : Prop := Claim7.holds Tryd.pinned (.plain (OpenSpec.upto hmacTagsSpec)) hmacTagsUptoCard

/-- THE SECOND FORM's CARD OF 'kinkeeplaw05.HmacStreams'. -/
def hmacStreamsUptoCard : Claim7 := { stood := { row := hmacStreamsUptoRow, standIns := [], harness := (true, "a8f33f3f4991ec14a2bd2ca4053201376384bae44c8a1986e871a4859307e141"), looks := false }, kinds := [], alts := [], laidByText := true, laidKinds := [.data, .data, .data], laidTests := true, laidLooks := .later }
def HmacStreamsUptoCardSaid : Prop := Claim7.holds Tryd.pinned (.plain (OpenSpec.upto hmacStreamsSpec)) hmacStreamsUptoCard

/-- THE SECOND FORM's CARD OF 'kinkeeplaw05.HmacExtracts'. -/
def hmacExtractsUptoCard : Claim7 := { stood := { row := hmacExtractsUptoRow, standIns := [], harness := (true, "a8f33f3f4991ec14a2bd2ca4053201376384bae44c8a1986e871a4859307e141"), looks := false }, kinds := [], alts := [], laidByText := true, laidKinds := [.data, .data, .data], laidTests := true, laidLooks := .later }
def HmacExtractsUptoCardSaid : Prop := Claim7.holds Tryd.pinned (.plain (OpenSpec.upto hmacExtractsSpec)) hmacExtractsUptoCard

/-- THE SECOND FORM's CARD OF 'kinkeeplaw05.HmacExpands'. -/
def hmacExpandsUptoCard : Claim7 := { stood := { row := hmacExpandsUptoRow, standIns := [], harness := (true, "a8f33f3f4991ec14a2bd2ca4053201376384bae44c8a1986e871a4859307e141"), looks := false }, kinds := [], alts := [], laidByText := true, laidKinds := [.data, .data, .data], laidTests := true, laidLooks := .later }
def HmacExpandsUptoCardSaid : Prop := Claim7.holds Tryd.pinned (.plain (OpenSpec.upto hmacExpandsSpec)) hmacExpandsUptoCard

/-- THE SECOND FORM's CARD OF 'kinkeeplaw05.HmacPrefix'. -/
def hmacPrefixUptoCard : Claim7 := { stood := { row := hmacPrefixUptoRow, standIns := [], harness := (true, "a8f33f3f4991ec14a2bd2ca4053201376384bae44c8a1986e871a4859307e141"), looks := false }, kinds := [], alts := [], laidByText := true, laidKinds := [.data, .data, .data], laidTests := true, laidLooks := .later }
def HmacPrefixUptoCardSaid : Prop := Claim7.holds Tryd.pinned (.plain (OpenSpec.upto hmacPrefixSpec)) hmacPrefixUptoCard

/-- THE SECOND FORM's CARD OF 'kinkeeplaw05.HmacEqual'. -/
def hmacEqualUptoCard : Claim7 := { stood := { row := hmacEqualUptoRow, standIns := [], harness := (true, "a8f33f3f4991ec14a2bd2ca4053201376384bae44c8a1986e871a4859307e141"), looks := false }, kinds := [], alts := [], laidByText := true, laidKinds := [.data, .data, .data], laidTests := true, laidLooks := .later }
def HmacEqualUptoCardSaid : Prop := Claim7.holds Tryd.pinned (.plain (OpenSpec.upto hmacEqualSpec)) hmacEqualUptoCard

/-- THE SECOND FORM's CARD OF 'kinkeeplaw05.HmacKeys'. -/
def hmacKeysUptoCard : Claim7 := { stood := { row := hmacKeysUptoRow, standIns := [], harness := (true, "a8f33f3f4991ec14a2bd2ca4053201376384bae44c8a1986e871a4859307e141"), looks := false }, kinds := [], alts := [], laidByText := true, laidKinds := [.data, .data, .data], laidTests := true, laidLooks := .later }
def HmacKeysUptoCardSaid : Prop := Claim7.holds Tryd.pinned (.plain (OpenSpec.upto hmacKeysSpec)) hmacKeysUptoCard

/-- THE SECOND FORM's CARD OF 'kinkeeplaw05.HmacDerives'. -/
def hmacDerivesUptoCard : Claim7 := { stood := { row := hmacDerivesUptoRow, standIns := [], harness := (true, "a8f33f3f4991ec14a2bd2ca4053201376384bae44c8a1986e871a4859307e141"), looks := false }, kinds := [], alts := [], laidByText := true, laidKinds := [.data, .data, .data], laidTests := true, laidLooks := .later }
def HmacDerivesUptoCardSaid : Prop := Claim7.holds Tryd.pinned (.plain (OpenSpec.upto hmacDerivesSpec)) hmacDerivesUptoCard

/-- THE SECOND FORM's CARD OF 'kinkeeplaw05.HmacLabels'. -/
def hmacLabelsUptoCard : Claim7 := { stood := { row := hmacLabelsUptoRow, standIns := [], harness := (true, "a8f33f3f4991ec14a2bd2ca4053201376384bae44c8a1986e871a4859307e141"), looks := false }, kinds := [], alts := [], laidByText := true, laidKinds := [.data, .data, .data], laidTests := true, laidLooks := .later }
def HmacLabelsUptoCardSaid : Prop := Claim7.holds Tryd.pinned (.plain (OpenSpec.upto hmacLabelsSpec)) hmacLabelsUptoCard

/-- THE SECOND FORM's CARD OF 'kinkeeplaw05.HmacChains'. -/
def hmacChainsUptoCard : Claim7 := { stood := { row := hmacChainsUptoRow, standIns := [], harness := (true, "a8f33f3f4991ec14a2bd2ca4053201376384bae44c8a1986e871a4859307e141"), looks := false }, kinds := [], alts := [], laidByText := true, laidKinds := [.data, .data, .data], laidTests := true, laidLooks := .later }
def HmacChainsUptoCardSaid : Prop := Claim7.holds Tryd.pinned (.plain (OpenSpec.upto hmacChainsSpec)) hmacChainsUptoCard
end Rows
end Go.Proofs.YtghhjopclkhpnaaDoor
