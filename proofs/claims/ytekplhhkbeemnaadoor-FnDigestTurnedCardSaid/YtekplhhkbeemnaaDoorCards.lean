/-
  DERIVED. GIVEN WITH THE SEED: THE CARDS: each row of YtekplhhkbeemnaaDoorRows.lean that lists a variable, with what it lists TIED to the program's text (the seventh form; the later family's looks); each row that meets fmt, with fmt's text TOLD by the authors' own Lean function (tested against real Go, not proved from fmt's source: count such statements apart). THE CARD IS WHAT COUNTS. Prove the row's statement (the work); the ties are given (YtekplhhkbeemnaaDoorTie.lean); close each card by the builder's one call (the guide's Derived/Test/ToyasCard.lean, 'card_holds'). Laid BY PROGRAM, IN A SANDBOX (cutbox-door.mjs). By AI agents, Wed Nov 11 2026. No macro, syntax, notation, axiom, sorry.
-/
import Derived.Test.YtekplhhkbeemnaaDoorRows
import GoSem.ClaimSeven
namespace Go.Proofs.YtekplhhkbeemnaaDoor
namespace Rows

/-- THE TIED CARD OF 'laws.FnExactShaBlock'. -/
def fnExactShaBlockCard : Claim7 := { stood := { row := fnExactShaBlockRow, standIns := [], harness := (true, "591ab83c27ee1de3e6b298c52e5359d892ad2fbc03602c3ace14e4dd9eb98620"), looks := false }, kinds := [], alts := [], laidByText := true, laidKinds := [.data], laidTests := true, laidLooks := .later }
def FnExactShaBlockCardSaid : Prop := Claim7.holds Tryd.pinned (.plain (OpenSpec.ofChange fnExactShaBlockSpec)) fnExactShaBlockCard

/-- THE TIED CARD OF 'laws.FnExactDigest'. -/
def fnExactDigestCard : Claim7 := { stood := { row := fnExactDigestRow, standIns := [], harness := (true, "591ab83c27ee1de3e6b298c52e5359d892ad2fbc03602c3ace14e4dd9eb98620"), looks := false }, kinds := [], alts := [], laidByText := true, laidKinds := [.data], laidTests := true, laidLooks := .later }
def FnExactDigestCardSaid : Prop := Claim7.holds Tryd.pinned (.plain (OpenSpec.ofChange fnExactDigestSpec)) fnExactDigestCard

/-- THE TIED CARD OF 'laws.FnExactCutDigest'. -/
def fnExactCutDigestCard : Claim7 := { stood := { row := fnExactCutDigestRow, standIns := [], harness := (true, "591ab83c27ee1de3e6b298c52e5359d892ad2fbc03602c3ace14e4dd9eb98620"), looks := false }, kinds := [], alts := [], laidByText := true, laidKinds := [.data], laidTests := true, laidLooks := .later }
def FnExactCutDigestCardSaid : Prop := Claim7.holds Tryd.pinned (.plain (OpenSpec.ofChange fnExactCutDigestSpec)) fnExactCutDigestCard

/-- THE TIED CARD OF 'laws.FnExactDigestHex'. -/
def fnExactDigestHexCard : Claim7 := { stood := { row := fnExactDigestHexRow, standIns := [], harness := (true, "591ab83c27ee1de3e6b298c52e5359d892ad2fbc03602c3ace14e4dd9eb98620"), looks := false }, kinds := [], alts := [], laidByText := true, laidKinds := [.data], laidTests := true, laidLooks := .later }
def FnExactDigestHexCardSaid : Prop := Claim7.holds Tryd.pinned (.plain (OpenSpec.ofChange fnExactDigestHexSpec)) fnExactDigestHexCard

/-- THE TIED CARD OF 'laws.FnExactPadded'. -/
def fnExactPaddedCard : Claim7 := { stood := { row := fnExactPaddedRow, standIns := [], harness := (true, "591ab83c27ee1de3e6b298c52e5359d892ad2fbc03602c3ace14e4dd9eb98620"), looks := false }, kinds := [], alts := [], laidByText := true, laidKinds := [.data], laidTests := true, laidLooks := .later }
def FnExactPaddedCardSaid : Prop := Claim7.holds Tryd.pinned (.plain (OpenSpec.ofChange fnExactPaddedSpec)) fnExactPaddedCard

/-- THE TIED CARD OF 'laws.FnKnown'. -/
def fnKnownCard : Claim7 := { stood := { row := fnKnownRow, standIns := [], harness := (true, "591ab83c27ee1de3e6b298c52e5359d892ad2fbc03602c3ace14e4dd9eb98620"), looks := false }, kinds := [], alts := [], laidByText := true, laidKinds := [.data], laidTests := true, laidLooks := .later }
def FnKnownCardSaid : Prop := Claim7.holds Tryd.pinned (.plain (OpenSpec.ofChange fnKnownSpec)) fnKnownCard

/-- THE TIED CARD OF 'laws.FnBlocks'. -/
def fnBlocksCard : Claim7 := { stood := { row := fnBlocksRow, standIns := [], harness := (true, "591ab83c27ee1de3e6b298c52e5359d892ad2fbc03602c3ace14e4dd9eb98620"), looks := false }, kinds := [], alts := [], laidByText := true, laidKinds := [.data], laidTests := true, laidLooks := .later }
def FnBlocksCardSaid : Prop := Claim7.holds Tryd.pinned (.plain (OpenSpec.ofChange fnBlocksSpec)) fnBlocksCard

/-- THE TIED CARD OF 'laws.FnDigestTurned'. -/
def fnDigestTurnedCard : Claim7 := { stood := { row := fnDigestTurnedRow, standIns := [], harness := (true, "591ab83c27ee1de3e6b298c52e5359d892ad2fbc03602c3ace14e4dd9eb98620"), looks := false }, kinds := [], alts := [], laidByText := true, laidKinds := [.data], laidTests := true, laidLooks := .later }
def FnDigestTurnedCardSaid : Prop := Claim7.holds Tryd.pinned (.plain (OpenSpec.ofChange fnDigestTurnedSpec)) fnDigestTurnedCard

/-- THE SECOND FORM's CARD OF 'laws.FnExactShaBlock'. -/
def fnExactShaBlockUptoCard : Claim7 := { stood := { row := fnExactShaBlockUptoRow, standIns := [], harness := (true, "591ab83c27ee1de3e6b298c52e5359d892ad2fbc03602c3ace14e4dd9eb98620"), looks := false }, kinds := [], alts := [], laidByText := true, laidKinds := [.data], laidTests := true, laidLooks := .later }
def FnExactShaBlockUptoCardSaid : Prop := Claim7.holds Tryd.pinned (.plain (OpenSpec.upto fnExactShaBlockSpec)) fnExactShaBlockUptoCard

/-- THE SECOND FORM's CARD OF 'laws.FnExactDigest'. -/
def fnExactDigestUptoCard : Claim7 := { stood := { row := fnExactDigestUptoRow, standIns := [], harness := (true, "591ab83c27ee1de3e6b298c52e5359d892ad2fbc03602c3ace14e4dd9eb98620"), looks := false }, kinds := [], alts := [], laidByText := true, laidKinds := [.data], laidTests := true, laidLooks := .later }
def FnExactDigestUptoCardSaid : Prop := Claim7.holds Tryd.pinned (.plain (OpenSpec.upto fnExactDigestSpec)) fnExactDigestUptoCard

/-- THE SECOND FORM's CARD OF 'laws.FnExactCutDigest'. -/
def fnExactCutDigestUptoCard : Claim7 := { stood := { row := fnExactCutDigestUptoRow, standIns := [], harness := (true, "591ab83c27ee1de3e6b298c52e5359d892ad2fbc03602c3ace14e4dd9eb98620"), looks := false }, kinds := [], alts := [], laidByText := true, laidKinds := [.data], laidTests := true, laidLooks := .later }
def FnExactCutDigestUptoCardSaid : Prop := Claim7.holds Tryd.pinned (.plain (OpenSpec.upto fnExactCutDigestSpec)) fnExactCutDigestUptoCard

/-- THE SECOND FORM's CARD OF 'laws.FnExactDigestHex'. -/
def fnExactDigestHexUptoCard : Claim7 := { stood := { row := fnExactDigestHexUptoRow, standIns := [], harness := (true, "591ab83c27ee1de3e6b298c52e5359d892ad2fbc03602c3ace14e4dd9eb98620"), looks := false }, kinds := [], alts := [], laidByText := true, laidKinds := [.data], laidTests := true, laidLooks := .later }
def FnExactDigestHexUptoCardSaid : Prop := Claim7.holds Tryd.pinned (.plain (OpenSpec.upto fnExactDigestHexSpec)) fnExactDigestHexUptoCard

/-- THE SECOND FORM's CARD OF 'laws.FnExactPadded'. -/
def fnExactPaddedUptoCard : Claim7 := { stood := { row := fnExactPaddedUptoRow, standIns := [], harness := (true, "591ab83c27ee1de3e6b298c52e5359d892ad2fbc03602c3ace14e4dd9eb98620"), looks := false }, kinds := [], alts := [], laidByText := true, laidKinds := [.data], laidTests := true, laidLooks := .later }
def FnExactPaddedUptoCardSaid : Prop := Claim7.holds Tryd.pinned (.plain (OpenSpec.upto fnExactPaddedSpec)) fnExactPaddedUptoCard

/-- THE SECOND FORM's CARD OF 'laws.FnKnown'. -/
def fnKnownUptoCard : Claim7 := { stood := { row := fnKnownUptoRow, standIns := [], harness := (true, "591ab83c27ee1de3e6b298c52e5359d892ad2fbc03602c3ace14e4dd9eb98620"), looks := false }, kinds := [], alts := [], laidByText := true, laidKinds := [.data], laidTests := true, laidLooks := .later }
def FnKnownUptoCardSaid : Prop := Claim7.holds Tryd.pinned (.plain (OpenSpec.upto fnKnownSpec)) fnKnownUptoCard

/-- THE SECOND FORM's CARD OF 'laws.FnBlocks'. -/
def fnBlocksUptoCard : Claim7 := { stood := { row := fnBlocksUptoRow, standIns := [], harness := (true, "591ab83c27ee1de3e6b298c52e5359d892ad2fbc03602c3ace14e4dd9eb98620"), looks := false }, kinds := [], alts := [], laidByText := true, laidKinds := [.data], laidTests := true, laidLooks := .later }
def FnBlocksUptoCardSaid : Prop := Claim7.holds Tryd.pinned (.plain (OpenSpec.upto fnBlocksSpec)) fnBlocksUptoCard

/-- THE SECOND FORM's CARD OF 'laws.FnDigestTurned'. -/
def fnDigestTurnedUptoCard : Claim7 := { stood := { row := fnDigestTurnedUptoRow, standIns := [], harness := (true, "591ab83c27ee1de3e6b298c52e5359d892ad2fbc03602c3ace14e4dd9eb98620"), looks := false }, kinds := [], alts := [], laidByText := true, laidKinds := [.data], laidTests := true, laidLooks := .later }
def FnDigestTurnedUptoCardSaid : Prop := Claim7.holds Tryd.pinned (.plain (OpenSpec.upto fnDigestTurnedSpec)) fnDigestTurnedUptoCard
end Rows
end Go.Proofs.YtekplhhkbeemnaaDoor
