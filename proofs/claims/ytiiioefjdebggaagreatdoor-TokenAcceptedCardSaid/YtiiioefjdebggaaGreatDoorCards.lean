/-
  DERIVED. GIVEN WITH THE SEED: THE CARDS: each row of YtiiioefjdebggaaGreatDoorRows.lean that lists a variable, with what it lists TIED to the program's text (the seventh form; the later family's looks); each row that meets fmt, with fmt's text TOLD by the authors' own Lean function (tested against real Go, not proved from fmt's source: count such statements apart). THE CARD IS WHAT COUNTS. Prove the row's statement (the work); the ties are given (YtiiioefjdebggaaGreatDoorTie.lean); close each card by the builder's one call (the guide's Derived/Test/ToyasCard.lean, 'card_holds'). Laid BY PROGRAM, IN A SANDBOX (cutbox-door.mjs). By AI agents, Wed Nov 11 2026. No macro, syntax, notation, axiom, sorry.
-/
import Derived.Test.YtiiioefjdebggaaGreatDoorRows
import GoSem.ClaimSeven
namespace Go.Proofs.YtiiioefjdebggaaGreatDoor
namespace Rows

/-- THE TIED CARD OF 'identitylaw26.TokenSigns'. -/
def tokenSignsCard : Claim7 := { stood := { row := tokenSignsRow, standIns := [], harness := (true, "bcf912df12320e36ff0a228ad36cdab66f81713f7be421eb9993d6aa11d3232b"), looks := true }, kinds := [], alts := [], laidByText := true, laidKinds := [.data, .data, .data, .data, .sentinel, .sentinel, .data, .data, .pinned], laidTests := true, laidLooks := .later }
def TokenSignsCardSaid : Prop := Claim7.holds Tryz.pinned (.plain (OpenSpec.ofChange tokenSignsSpec)) tokenSignsCard

/-- THE TIED CARD OF 'identitylaw26.TokenVerifies'. -/
def tokenVerifiesCard : Claim7 := { stood := { row := tokenVerifiesRow, standIns := [], harness := (true, "bcf912df12320e36ff0a228ad36cdab66f81713f7be421eb9993d6aa11d3232b"), looks := true }, kinds := [], alts := [], laidByText := true, laidKinds := [.data, .data, .data, .data, .sentinel, .sentinel, .data, .data, .pinned], laidTests := true, laidLooks := .later }
def TokenVerifiesCardSaid : Prop := Claim7.holds Tryz.pinned (.plain (OpenSpec.ofChange tokenVerifiesSpec)) tokenVerifiesCard

/-- THE TIED CARD OF 'identitylaw26.TokenLefts'. -/
def tokenLeftsCard : Claim7 := { stood := { row := tokenLeftsRow, standIns := [], harness := (true, "bcf912df12320e36ff0a228ad36cdab66f81713f7be421eb9993d6aa11d3232b"), looks := true }, kinds := [], alts := [], laidByText := true, laidKinds := [.data, .data, .data, .data, .sentinel, .sentinel, .data, .data, .pinned], laidTests := true, laidLooks := .later }
def TokenLeftsCardSaid : Prop := Claim7.holds Tryz.pinned (.plain (OpenSpec.ofChange tokenLeftsSpec)) tokenLeftsCard

/-- THE TIED CARD OF 'identitylaw26.TokenAccepted'. -/
def tokenAcceptedCard : Claim7 := { stood := { row := tokenAcceptedRow, standIns := [], harness := (true, "bcf912df12320e36ff0a228ad36cdab66f81713f7be421eb9993d6aa11d3232b"), looks := true }, kinds := [], alts := [], laidByText := true, laidKinds := [.data, .data, .data, .data, .sentinel, .sentinel, .data, .data, .pinned], laidTests := true, laidLooks := .later }
def TokenAcceptedCardSaid : Prop := Claim7.holds Tryz.pinned (.plain (OpenSpec.ofChange tokenAcceptedSpec)) tokenAcceptedCard

/-- THE TIED CARD OF 'identitylaw26.TokenSplits'. -/
def tokenSplitsCard : Claim7 := { stood := { row := tokenSplitsRow, standIns := [], harness := (true, "bcf912df12320e36ff0a228ad36cdab66f81713f7be421eb9993d6aa11d3232b"), looks := true }, kinds := [], alts := [], laidByText := true, laidKinds := [.data, .data, .data, .data, .sentinel, .sentinel, .data, .data, .pinned], laidTests := true, laidLooks := .later }
def TokenSplitsCardSaid : Prop := Claim7.holds Tryz.pinned (.plain (OpenSpec.ofChange tokenSplitsSpec)) tokenSplitsCard

/-- THE TIED CARD OF 'identitylaw26.TokenForges'. -/
def tokenForgesCard : Claim7 := { stood := { row := tokenForgesRow, standIns := [], harness := (true, "bcf912df12320e36ff0a228ad36cdab66f81713f7be421eb9993d6aa11d3232b"), looks := true }, kinds := [], alts := [], laidByText := true, laidKinds := [.data, .data, .data, .data, .sentinel, .sentinel, .data, .data, .pinned], laidTests := true, laidLooks := .later }
def TokenForgesCardSaid : Prop := Claim7.holds Tryz.pinned (.plain (OpenSpec.ofChange tokenForgesSpec)) tokenForgesCard

/-- THE TIED CARD OF 'identitylaw26.TokenReturns'. -/
def tokenReturnsCard : Claim7 := { stood := { row := tokenReturnsRow, standIns := [], harness := (true, "bcf912df12320e36ff0a228ad36cdab66f81713f7be421eb9993d6aa11d3232b"), looks := true }, kinds := [], alts := [], laidByText := true, laidKinds := [.data, .data, .data, .data, .sentinel, .sentinel, .data, .data, .pinned], laidTests := true, laidLooks := .later }
def TokenReturnsCardSaid : Prop := Claim7.holds Tryz.pinned (.plain (OpenSpec.ofChange tokenReturnsSpec)) tokenReturnsCard

/-- THE TIED CARD OF 'identitylaw26.TokenDiffers'. -/
def tokenDiffersCard : Claim7 := { stood := { row := tokenDiffersRow, standIns := [], harness := (true, "bcf912df12320e36ff0a228ad36cdab66f81713f7be421eb9993d6aa11d3232b"), looks := true }, kinds := [], alts := [], laidByText := true, laidKinds := [.data, .data, .data, .data, .sentinel, .sentinel, .data, .data, .pinned], laidTests := true, laidLooks := .later }
def TokenDiffersCardSaid : Prop := Claim7.holds Tryz.pinned (.plain (OpenSpec.ofChange tokenDiffersSpec)) tokenDiffersCard

/-- THE TIED CARD OF 'identitylaw26.TokenRotates'. -/
def tokenRotatesCard : Claim7 := { stood := { row := tokenRotatesRow, standIns := [], harness := (true, "bcf912df12320e36ff0a228ad36cdab66f81713f7be421eb9993d6aa11d3232b"), looks := true }, kinds := [], alts := [], laidByText := true, laidKinds := [.data, .data, .data, .data, .sentinel, .sentinel, .data, .data, .pinned], laidTests := true, laidLooks := .later }
def TokenRotatesCardSaid : Prop := Claim7.holds Tryz.pinned (.plain (OpenSpec.ofChange tokenRotatesSpec)) tokenRotatesCard

/-- THE SECOND FORM's CARD OF 'identitylaw26.TokenSigns'. -/
def tokenSignsUptoCard : Claim7 := { stood := { row := tokenSignsUptoRow, standIns := [], harness := (true, "bcf912df12320e36ff0a228ad36cdab66f81713f7be421eb9993d6aa11d3232b"), looks := true }, kinds := [], alts := [], laidByText := true, laidKinds := [.data, .data, .data, .data, .sentinel, .sentinel, .data, .data, .pinned], laidTests := true, laidLooks := .later }
def TokenSignsUptoCardSaid : Prop := Claim7.holds Tryz.pinned (.plain (OpenSpec.upto tokenSignsSpec)) tokenSignsUptoCard

/-- THE SECOND FORM's CARD OF 'identitylaw26.TokenVerifies'. -/
def tokenVerifiesUptoCard : Claim7 := { stood := { row := tokenVerifiesUptoRow, standIns := [], harness := (true, "bcf912df12320e36ff0a228ad36cdab66f81713f7be421eb9993d6aa11d3232b"), looks := true }, kinds := [], alts := [], laidByText := true, laidKinds := [.data, .data, .data, .data, .sentinel, .sentinel, .data, .data, .pinned], laidTests := true, laidLooks := .later }
def TokenVerifiesUptoCardSaid : Prop := Claim7.holds Tryz.pinned (.plain (OpenSpec.upto tokenVerifiesSpec)) tokenVerifiesUptoCard

/-- THE SECOND FORM's CARD OF 'identitylaw26.TokenLefts'. -/
def tokenLeftsUptoCard : Claim7 := { stood := { row := tokenLeftsUptoRow, standIns := [], harness := (true, "bcf912df12320e36ff0a228ad36cdab66f81713f7be421eb9993d6aa11d3232b"), looks := true }, kinds := [], alts := [], laidByText := true, laidKinds := [.data, .data, .data, .data, .sentinel, .sentinel, .data, .data, .pinned], laidTests := true, laidLooks := .later }
def TokenLeftsUptoCardSaid : Prop := Claim7.holds Tryz.pinned (.plain (OpenSpec.upto tokenLeftsSpec)) tokenLeftsUptoCard

/-- THE SECOND FORM's CARD OF 'identitylaw26.TokenAccepted'. -/
def tokenAcceptedUptoCard : Claim7 := { stood := { row := tokenAcceptedUptoRow, standIns := [], harness := (true, "bcf912df12320e36ff0a228ad36cdab66f81713f7be421eb9993d6aa11d3232b"), looks := true }, kinds := [], alts := [], laidByText := true, laidKinds := [.data, .data, .data, .data, .sentinel, .sentinel, .data, .data, .pinned], laidTests := true, laidLooks := .later }
def TokenAcceptedUptoCardSaid : Prop := Claim7.holds Tryz.pinned (.plain (OpenSpec.upto tokenAcceptedSpec)) tokenAcceptedUptoCard

/-- THE SECOND FORM's CARD OF 'identitylaw26.TokenSplits'. -/
def tokenSplitsUptoCard : Claim7 := { stood := { row := tokenSplitsUptoRow, standIns := [], harness := (true, "bcf912df12320e36ff0a228ad36cdab66f81713f7be421eb9993d6aa11d3232b"), looks := true }, kinds := [], alts := [], laidByText := true, laidKinds := [.data, .data, .data, .data, .sentinel, .sentinel, .data, .data, .pinned], laidTests := true, laidLooks := .later }
def TokenSplitsUptoCardSaid : Prop := Claim7.holds Tryz.pinned (.plain (OpenSpec.upto tokenSplitsSpec)) tokenSplitsUptoCard

/-- THE SECOND FORM's CARD OF 'identitylaw26.TokenForges'. -/
def tokenForgesUptoCard : Claim7 := { stood := { row := tokenForgesUptoRow, standIns := [], harness := (true, "bcf912df12320e36ff0a228ad36cdab66f81713f7be421eb9993d6aa11d3232b"), looks := true }, kinds := [], alts := [], laidByText := true, laidKinds := [.data, .data, .data, .data, .sentinel, .sentinel, .data, .data, .pinned], laidTests := true, laidLooks := .later }
def TokenForgesUptoCardSaid : Prop := Claim7.holds Tryz.pinned (.plain (OpenSpec.upto tokenForgesSpec)) tokenForgesUptoCard

/-- THE SECOND FORM's CARD OF 'identitylaw26.TokenReturns'. -/
def tokenReturnsUptoCard : Claim7 := { stood := { row := tokenReturnsUptoRow, standIns := [], harness := (true, "bcf912df12320e36ff0a228ad36cdab66f81713f7be421eb9993d6aa11d3232b"), looks := true }, kinds := [], alts := [], laidByText := true, laidKinds := [.data, .data, .data, .data, .sentinel, .sentinel, .data, .data, .pinned], laidTests := true, laidLooks := .later }
def TokenReturnsUptoCardSaid : Prop := Claim7.holds Tryz.pinned (.plain (OpenSpec.upto tokenReturnsSpec)) tokenReturnsUptoCard

/-- THE SECOND FORM's CARD OF 'identitylaw26.TokenDiffers'. -/
def tokenDiffersUptoCard : Claim7 := { stood := { row := tokenDiffersUptoRow, standIns := [], harness := (true, "bcf912df12320e36ff0a228ad36cdab66f81713f7be421eb9993d6aa11d3232b"), looks := true }, kinds := [], alts := [], laidByText := true, laidKinds := [.data, .data, .data, .data, .sentinel, .sentinel, .data, .data, .pinned], laidTests := true, laidLooks := .later }
def TokenDiffersUptoCardSaid : Prop := Claim7.holds Tryz.pinned (.plain (OpenSpec.upto tokenDiffersSpec)) tokenDiffersUptoCard

/-- THE SECOND FORM's CARD OF 'identitylaw26.TokenRotates'. -/
def tokenRotatesUptoCard : Claim7 := { stood := { row := tokenRotatesUptoRow, standIns := [], harness := (true, "bcf912df12320e36ff0a228ad36cdab66f81713f7be421eb9993d6aa11d3232b"), looks := true }, kinds := [], alts := [], laidByText := true, laidKinds := [.data, .data, .data, .data, .sentinel, .sentinel, .data, .data, .pinned], laidTests := true, laidLooks := .later }
def TokenRotatesUptoCardSaid : Prop := Claim7.holds Tryz.pinned (.plain (OpenSpec.upto tokenRotatesSpec)) tokenRotatesUptoCard
end Rows
end Go.Proofs.YtiiioefjdebggaaGreatDoor
