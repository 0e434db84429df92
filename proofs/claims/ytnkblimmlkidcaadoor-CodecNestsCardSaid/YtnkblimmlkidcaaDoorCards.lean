/-
  DERIVED. GIVEN WITH THE SEED: THE CARDS: each row of YtnkblimmlkidcaaDoorRows.lean that lists a variable, with what it lists TIED to the program's text (the seventh form; the later family's looks); each row that meets fmt, with fmt's text TOLD by the authors' own Lean function (tested against real Go, not proved from fmt's source: count such statements apart). THE CARD IS WHAT COUNTS. Prove the row's statement (the work); the ties are given (YtnkblimmlkidcaaDoorTie.lean); close each card by the builder's one call (the guide's Derived/Test/ToyasCard.lean, 'card_holds'). Laid BY PROGRAM, IN A SANDBOX (cutbox-door.mjs). By AI agents, Wed Nov 11 2026. No macro, syntax, notation, axiom, sorry.
-/
import Derived.Test.YtnkblimmlkidcaaDoorRows
import GoSem.ClaimSeven
namespace Go.Proofs.YtnkblimmlkidcaaDoor
namespace Rows

/-- THE TIED CARD OF 'identitylaw02.CodecEscapes'. -/
def codecEscapesCard : Claim7 := { stood := { row := codecEscapesRow, standIns := [], harness := (true, "efd71251092d31cf164eb698ff48bef6581c9460ac37c68fca4c750d6745de17"), looks := true }, kinds := [], alts := [], laidByText := true, laidKinds := [.data, .data, .data, .data, .sentinel, .sentinel, .pinned], laidTests := true, laidLooks := .later }
def CodecEscapesCardSaid : Prop := Claim7.holds Tryd.pinned (.plain (OpenSpec.ofChange codecEscapesSpec)) codecEscapesCard

/-- THE TIED CARD OF 'identitylaw02.CodecUnescapes'. -/
def codecUnescapesCard : Claim7 := { stood := { row := codecUnescapesRow, standIns := [], harness := (true, "efd71251092d31cf164eb698ff48bef6581c9460ac37c68fca4c750d6745de17"), looks := true }, kinds := [], alts := [], laidByText := true, laidKinds := [.data, .data, .data, .data, .sentinel, .sentinel, .pinned], laidTests := true, laidLooks := .later }
def CodecUnescapesCardSaid : Prop := Claim7.holds Tryd.pinned (.plain (OpenSpec.ofChange codecUnescapesSpec)) codecUnescapesCard

/-- THE TIED CARD OF 'identitylaw02.CodecJoins'. -/
def codecJoinsCard : Claim7 := { stood := { row := codecJoinsRow, standIns := [], harness := (true, "efd71251092d31cf164eb698ff48bef6581c9460ac37c68fca4c750d6745de17"), looks := true }, kinds := [], alts := [], laidByText := true, laidKinds := [.data, .data, .data, .data, .sentinel, .sentinel, .pinned], laidTests := true, laidLooks := .later }
def CodecJoinsCardSaid : Prop := Claim7.holds Tryd.pinned (.plain (OpenSpec.ofChange codecJoinsSpec)) codecJoinsCard

/-- THE TIED CARD OF 'identitylaw02.CodecSplits'. -/
def codecSplitsCard : Claim7 := { stood := { row := codecSplitsRow, standIns := [], harness := (true, "efd71251092d31cf164eb698ff48bef6581c9460ac37c68fca4c750d6745de17"), looks := true }, kinds := [], alts := [], laidByText := true, laidKinds := [.data, .data, .data, .data, .sentinel, .sentinel, .pinned], laidTests := true, laidLooks := .later }
def CodecSplitsCardSaid : Prop := Claim7.holds Tryd.pinned (.plain (OpenSpec.ofChange codecSplitsSpec)) codecSplitsCard

/-- THE TIED CARD OF 'identitylaw02.CodecPairs'. -/
def codecPairsCard : Claim7 := { stood := { row := codecPairsRow, standIns := [], harness := (true, "efd71251092d31cf164eb698ff48bef6581c9460ac37c68fca4c750d6745de17"), looks := true }, kinds := [], alts := [], laidByText := true, laidKinds := [.data, .data, .data, .data, .sentinel, .sentinel, .pinned], laidTests := true, laidLooks := .later }
def CodecPairsCardSaid : Prop := Claim7.holds Tryd.pinned (.plain (OpenSpec.ofChange codecPairsSpec)) codecPairsCard

/-- THE TIED CARD OF 'identitylaw02.CodecReadsPairs'. -/
def codecReadsPairsCard : Claim7 := { stood := { row := codecReadsPairsRow, standIns := [], harness := (true, "efd71251092d31cf164eb698ff48bef6581c9460ac37c68fca4c750d6745de17"), looks := true }, kinds := [], alts := [], laidByText := true, laidKinds := [.data, .data, .data, .data, .sentinel, .sentinel, .pinned], laidTests := true, laidLooks := .later }
def CodecReadsPairsCardSaid : Prop := Claim7.holds Tryd.pinned (.plain (OpenSpec.ofChange codecReadsPairsSpec)) codecReadsPairsCard

/-- THE TIED CARD OF 'identitylaw02.CodecInts'. -/
def codecIntsCard : Claim7 := { stood := { row := codecIntsRow, standIns := [], harness := (true, "efd71251092d31cf164eb698ff48bef6581c9460ac37c68fca4c750d6745de17"), looks := true }, kinds := [], alts := [], laidByText := true, laidKinds := [.data, .data, .data, .data, .sentinel, .sentinel, .pinned], laidTests := true, laidLooks := .later }
def CodecIntsCardSaid : Prop := Claim7.holds Tryd.pinned (.plain (OpenSpec.ofChange codecIntsSpec)) codecIntsCard

/-- THE TIED CARD OF 'identitylaw02.CodecBase64'. -/
def codecBase64Card : Claim7 := { stood := { row := codecBase64Row, standIns := [], harness := (true, "efd71251092d31cf164eb698ff48bef6581c9460ac37c68fca4c750d6745de17"), looks := true }, kinds := [], alts := [], laidByText := true, laidKinds := [.data, .data, .data, .data, .sentinel, .sentinel, .pinned], laidTests := true, laidLooks := .later }
def CodecBase64CardSaid : Prop := Claim7.holds Tryd.pinned (.plain (OpenSpec.ofChange codecBase64Spec)) codecBase64Card

/-- THE TIED CARD OF 'identitylaw02.CodecNests'. -/
def codecNestsCard : Claim7 := { stood := { row := codecNestsRow, standIns := [], harness := (true, "efd71251092d31cf164eb698ff48bef6581c9460ac37c68fca4c750d6745de17"), looks := true }, kinds := [], alts := [], laidByText := true, laidKinds := [.data, .data, .data, .data, .sentinel, .sentinel, .pinned], laidTests := true, laidLooks := .later }
def CodecNestsCardSaid : Prop := Claim7.holds Tryd.pinned (.plain (OpenSpec.ofChange codecNestsSpec)) codecNestsCard

/-- THE SECOND FORM's CARD OF 'identitylaw02.CodecEscapes'. -/
def codecEscapesUptoCard : Claim7 := { stood := { row := codecEscapesUptoRow, standIns := [], harness := (true, "efd71251092d31cf164eb698ff48bef6581c9460ac37c68fca4c750d6745de17"), looks := true }, kinds := [], alts := [], laidByText := true, laidKinds := [.data, .data, .data, .data, .sentinel, .sentinel, .pinned], laidTests := true, laidLooks := .later }
def CodecEscapesUptoCardSaid : Prop := Claim7.holds Tryd.pinned (.plain (OpenSpec.upto codecEscapesSpec)) codecEscapesUptoCard

/-- THE SECOND FORM's CARD OF 'identitylaw02.CodecUnescapes'. -/
def codecUnescapesUptoCard : Claim7 := { stood := { row := codecUnescapesUptoRow, standIns := [], harness := (true, "efd71251092d31cf164eb698ff48bef6581c9460ac37c68fca4c750d6745de17"), looks := true }, kinds := [], alts := [], laidByText := true, laidKinds := [.data, .data, .data, .data, .sentinel, .sentinel, .pinned], laidTests := true, laidLooks := .later }
def CodecUnescapesUptoCardSaid : Prop := Claim7.holds Tryd.pinned (.plain (OpenSpec.upto codecUnescapesSpec)) codecUnescapesUptoCard

/-- THE SECOND FORM's CARD OF 'identitylaw02.CodecJoins'. -/
def codecJoinsUptoCard : Claim7 := { stood := { row := codecJoinsUptoRow, standIns := [], harness := (true, "efd71251092d31cf164eb698ff48bef6581c9460ac37c68fca4c750d6745de17"), looks := true }, kinds := [], alts := [], laidByText := true, laidKinds := [.data, .data, .data, .data, .sentinel, .sentinel, .pinned], laidTests := true, laidLooks := .later }
def CodecJoinsUptoCardSaid : Prop := Claim7.holds Tryd.pinned (.plain (OpenSpec.upto codecJoinsSpec)) codecJoinsUptoCard

/-- THE SECOND FORM's CARD OF 'identitylaw02.CodecSplits'. -/
def codecSplitsUptoCard : Claim7 := { stood := { row := codecSplitsUptoRow, standIns := [], harness := (true, "efd71251092d31cf164eb698ff48bef6581c9460ac37c68fca4c750d6745de17"), looks := true }, kinds := [], alts := [], laidByText := true, laidKinds := [.data, .data, .data, .data, .sentinel, .sentinel, .pinned], laidTests := true, laidLooks := .later }
def CodecSplitsUptoCardSaid : Prop := Claim7.holds Tryd.pinned (.plain (OpenSpec.upto codecSplitsSpec)) codecSplitsUptoCard

/-- THE SECOND FORM's CARD OF 'identitylaw02.CodecPairs'. -/
def codecPairsUptoCard : Claim7 := { stood := { row := codecPairsUptoRow, standIns := [], harness := (true, "efd71251092d31cf164eb698ff48bef6581c9460ac37c68fca4c750d6745de17"), looks := true }, kinds := [], alts := [], laidByText := true, laidKinds := [.data, .data, .data, .data, .sentinel, .sentinel, .pinned], laidTests := true, laidLooks := .later }
def CodecPairsUptoCardSaid : Prop := Claim7.holds Tryd.pinned (.plain (OpenSpec.upto codecPairsSpec)) codecPairsUptoCard

/-- THE SECOND FORM's CARD OF 'identitylaw02.CodecReadsPairs'. -/
def codecReadsPairsUptoCard : Claim7 := { stood := { row := codecReadsPairsUptoRow, standIns := [], harness := (true, "efd71251092d31cf164eb698ff48bef6581c9460ac37c68fca4c750d6745de17"), looks := true }, kinds := [], alts := [], laidByText := true, laidKinds := [.data, .data, .data, .data, .sentinel, .sentinel, .pinned], laidTests := true, laidLooks := .later }
def CodecReadsPairsUptoCardSaid : Prop := Claim7.holds Tryd.pinned (.plain (OpenSpec.upto codecReadsPairsSpec)) codecReadsPairsUptoCard

/-- THE SECOND FORM's CARD OF 'identitylaw02.CodecInts'. -/
def codecIntsUptoCard : Claim7 := { stood := { row := codecIntsUptoRow, standIns := [], harness := (true, "efd71251092d31cf164eb698ff48bef6581c9460ac37c68fca4c750d6745de17"), looks := true }, kinds := [], alts := [], laidByText := true, laidKinds := [.data, .data, .data, .data, .sentinel, .sentinel, .pinned], laidTests := true, laidLooks := .later }
def CodecIntsUptoCardSaid : Prop := Claim7.holds Tryd.pinned (.plain (OpenSpec.upto codecIntsSpec)) codecIntsUptoCard

/-- THE SECOND FORM's CARD OF 'identitylaw02.CodecBase64'. -/
def codecBase64UptoCard : Claim7 := { stood := { row := codecBase64UptoRow, standIns := [], harness := (true, "efd71251092d31cf164eb698ff48bef6581c9460ac37c68fca4c750d6745de17"), looks := true }, kinds := [], alts := [], laidByText := true, laidKinds := [.data, .data, .data, .data, .sentinel, .sentinel, .pinned], laidTests := true, laidLooks := .later }
def CodecBase64UptoCardSaid : Prop := Claim7.holds Tryd.pinned (.plain (OpenSpec.upto codecBase64Spec)) codecBase64UptoCard

/-- THE SECOND FORM's CARD OF 'identitylaw02.CodecNests'. -/
def codecNestsUptoCard : Claim7 := { stood := { row := codecNestsUptoRow, standIns := [], harness := (true, "efd71251092d31cf164eb698ff48bef6581c9460ac37c68fca4c750d6745de17"), looks := true }, kinds := [], alts := [], laidByText := true, laidKinds := [.data, .data, .data, .data, .sentinel, .sentinel, .pinned], laidTests := true, laidLooks := .later }
def CodecNestsUptoCardSaid : Prop := Claim7.holds Tryd.pinned (.plain (OpenSpec.upto codecNestsSpec)) codecNestsUptoCard
end Rows
end Go.Proofs.YtnkblimmlkidcaaDoor
