/-
  DERIVED. GIVEN WITH THE SEED: THE CARDS: each row of YtpmikpijonccjaaGreatDoorRows.lean that lists a variable, with what it lists TIED to the program's text (the seventh form; the later family's looks); each row that meets fmt, with fmt's text TOLD by the authors' own Lean function (tested against real Go, not proved from fmt's source: count such statements apart). THE CARD IS WHAT COUNTS. Prove the row's statement (the work); the ties are given (YtpmikpijonccjaaGreatDoorTie.lean); close each card by the builder's one call (the guide's Derived/Test/ToyasCard.lean, 'card_holds'). Laid BY PROGRAM, IN A SANDBOX (cutbox-door.mjs). By AI agents, Wed Nov 11 2026. No macro, syntax, notation, axiom, sorry.
-/
import Derived.Test.YtpmikpijonccjaaGreatDoorRows
import GoSem.ClaimSeven
namespace Go.Proofs.YtpmikpijonccjaaGreatDoor
namespace Rows

/-- THE TIED CARD OF 'identitylaw25.ClaimsChecks'. -/
def claimsChecksCard : Claim7 := { stood := { row := claimsChecksRow, standIns := [], harness := (true, "79e29779d267c3baaac406b44bceaa583460cfa6f40c2c1068cf2627e1b7c549"), looks := true }, kinds := [], alts := [], laidByText := true, laidKinds := [.data, .data, .data, .data, .sentinel, .sentinel, .data, .pinned], laidTests := true, laidLooks := .later }
def ClaimsChecksCardSaid : Prop := Claim7.holds Tryz.pinned (.plain (OpenSpec.ofChange claimsChecksSpec)) claimsChecksCard

/-- THE TIED CARD OF 'identitylaw25.ClaimsEncodes'. -/
def claimsEncodesCard : Claim7 := { stood := { row := claimsEncodesRow, standIns := [], harness := (true, "79e29779d267c3baaac406b44bceaa583460cfa6f40c2c1068cf2627e1b7c549"), looks := true }, kinds := [], alts := [], laidByText := true, laidKinds := [.data, .data, .data, .data, .sentinel, .sentinel, .data, .pinned], laidTests := true, laidLooks := .later }
def ClaimsEncodesCardSaid : Prop := Claim7.holds Tryz.pinned (.plain (OpenSpec.ofChange claimsEncodesSpec)) claimsEncodesCard

/-- THE TIED CARD OF 'identitylaw25.ClaimsAllows'. -/
def claimsAllowsCard : Claim7 := { stood := { row := claimsAllowsRow, standIns := [], harness := (true, "79e29779d267c3baaac406b44bceaa583460cfa6f40c2c1068cf2627e1b7c549"), looks := true }, kinds := [], alts := [], laidByText := true, laidKinds := [.data, .data, .data, .data, .sentinel, .sentinel, .data, .pinned], laidTests := true, laidLooks := .later }
def ClaimsAllowsCardSaid : Prop := Claim7.holds Tryz.pinned (.plain (OpenSpec.ofChange claimsAllowsSpec)) claimsAllowsCard

/-- THE TIED CARD OF 'identitylaw25.ClaimsNarrows'. -/
def claimsNarrowsCard : Claim7 := { stood := { row := claimsNarrowsRow, standIns := [], harness := (true, "79e29779d267c3baaac406b44bceaa583460cfa6f40c2c1068cf2627e1b7c549"), looks := true }, kinds := [], alts := [], laidByText := true, laidKinds := [.data, .data, .data, .data, .sentinel, .sentinel, .data, .pinned], laidTests := true, laidLooks := .later }
def ClaimsNarrowsCardSaid : Prop := Claim7.holds Tryz.pinned (.plain (OpenSpec.ofChange claimsNarrowsSpec)) claimsNarrowsCard

/-- THE TIED CARD OF 'identitylaw25.ClaimsBack'. -/
def claimsBackCard : Claim7 := { stood := { row := claimsBackRow, standIns := [], harness := (true, "79e29779d267c3baaac406b44bceaa583460cfa6f40c2c1068cf2627e1b7c549"), looks := true }, kinds := [], alts := [], laidByText := true, laidKinds := [.data, .data, .data, .data, .sentinel, .sentinel, .data, .pinned], laidTests := true, laidLooks := .later }
def ClaimsBackCardSaid : Prop := Claim7.holds Tryz.pinned (.plain (OpenSpec.ofChange claimsBackSpec)) claimsBackCard

/-- THE TIED CARD OF 'identitylaw25.ClaimsLess'. -/
def claimsLessCard : Claim7 := { stood := { row := claimsLessRow, standIns := [], harness := (true, "79e29779d267c3baaac406b44bceaa583460cfa6f40c2c1068cf2627e1b7c549"), looks := true }, kinds := [], alts := [], laidByText := true, laidKinds := [.data, .data, .data, .data, .sentinel, .sentinel, .data, .pinned], laidTests := true, laidLooks := .later }
def ClaimsLessCardSaid : Prop := Claim7.holds Tryz.pinned (.plain (OpenSpec.ofChange claimsLessSpec)) claimsLessCard

/-- THE TIED CARD OF 'identitylaw25.ClaimsWindow'. -/
def claimsWindowCard : Claim7 := { stood := { row := claimsWindowRow, standIns := [], harness := (true, "79e29779d267c3baaac406b44bceaa583460cfa6f40c2c1068cf2627e1b7c549"), looks := true }, kinds := [], alts := [], laidByText := true, laidKinds := [.data, .data, .data, .data, .sentinel, .sentinel, .data, .pinned], laidTests := true, laidLooks := .later }
def ClaimsWindowCardSaid : Prop := Claim7.holds Tryz.pinned (.plain (OpenSpec.ofChange claimsWindowSpec)) claimsWindowCard

/-- THE SECOND FORM's CARD OF 'identitylaw25.ClaimsChecks'. -/
def claimsChecksUptoCard : Claim7 := { stood := { row := claimsChecksUptoRow, standIns := [], harness := (true, "79e29779d267c3baaac406b44bceaa583460cfa6f40c2c1068cf2627e1b7c549"), looks := true }, kinds := [], alts := [], laidByText := true, laidKinds := [.data, .data, .data, .data, .sentinel, .sentinel, .data, .pinned], laidTests := true, laidLooks := .later }
def ClaimsChecksUptoCardSaid : Prop := Claim7.holds Tryz.pinned (.plain (OpenSpec.upto claimsChecksSpec)) claimsChecksUptoCard

/-- THE SECOND FORM's CARD OF 'identitylaw25.ClaimsEncodes'. -/
def claimsEncodesUptoCard : Claim7 := { stood := { row := claimsEncodesUptoRow, standIns := [], harness := (true, "79e29779d267c3baaac406b44bceaa583460cfa6f40c2c1068cf2627e1b7c549"), looks := true }, kinds := [], alts := [], laidByText := true, laidKinds := [.data, .data, .data, .data, .sentinel, .sentinel, .data, .pinned], laidTests := true, laidLooks := .later }
def ClaimsEncodesUptoCardSaid : Prop := Claim7.holds Tryz.pinned (.plain (OpenSpec.upto claimsEncodesSpec)) claimsEncodesUptoCard

/-- THE SECOND FORM's CARD OF 'identitylaw25.ClaimsAllows'. -/
def claimsAllowsUptoCard : Claim7 := { stood := { row := claimsAllowsUptoRow, standIns := [], harness := (true, "79e29779d267c3baaac406b44bceaa583460cfa6f40c2c1068cf2627e1b7c549"), looks := true }, kinds := [], alts := [], laidByText := true, laidKinds := [.data, .data, .data, .data, .sentinel, .sentinel, .data, .pinned], laidTests := true, laidLooks := .later }
def ClaimsAllowsUptoCardSaid : Prop := Claim7.holds Tryz.pinned (.plain (OpenSpec.upto claimsAllowsSpec)) claimsAllowsUptoCard

/-- THE SECOND FORM's CARD OF 'identitylaw25.ClaimsNarrows'. -/
def claimsNarrowsUptoCard : Claim7 := { stood := { row := claimsNarrowsUptoRow, standIns := [], harness := (true, "79e29779d267c3baaac406b44bceaa583460cfa6f40c2c1068cf2627e1b7c549"), looks := true }, kinds := [], alts := [], laidByText := true, laidKinds := [.data, .data, .data, .data, .sentinel, .sentinel, .data, .pinned], laidTests := true, laidLooks := .later }
def ClaimsNarrowsUptoCardSaid : Prop := Claim7.holds Tryz.pinned (.plain (OpenSpec.upto claimsNarrowsSpec)) claimsNarrowsUptoCard

/-- THE SECOND FORM's CARD OF 'identitylaw25.ClaimsBack'. -/
def claimsBackUptoCard : Claim7 := { stood := { row := claimsBackUptoRow, standIns := [], harness := (true, "79e29779d267c3baaac406b44bceaa583460cfa6f40c2c1068cf2627e1b7c549"), looks := true }, kinds := [], alts := [], laidByText := true, laidKinds := [.data, .data, .data, .data, .sentinel, .sentinel, .data, .pinned], laidTests := true, laidLooks := .later }
def ClaimsBackUptoCardSaid : Prop := Claim7.holds Tryz.pinned (.plain (OpenSpec.upto claimsBackSpec)) claimsBackUptoCard

/-- THE SECOND FORM's CARD OF 'identitylaw25.ClaimsLess'. -/
def claimsLessUptoCard : Claim7 := { stood := { row := claimsLessUptoRow, standIns := [], harness := (true, "79e29779d267c3baaac406b44bceaa583460cfa6f40c2c1068cf2627e1b7c549"), looks := true }, kinds := [], alts := [], laidByText := true, laidKinds := [.data, .data, .data, .data, .sentinel, .sentinel, .data, .pinned], laidTests := true, laidLooks := .later }
def ClaimsLessUptoCardSaid : Prop := Claim7.holds Tryz.pinned (.plain (OpenSpec.upto claimsLessSpec)) claimsLessUptoCard

/-- THE SECOND FORM's CARD OF 'identitylaw25.ClaimsWindow'. -/
def claimsWindowUptoCard : Claim7 := { stood := { row := claimsWindowUptoRow, standIns := [], harness := (true, "79e29779d267c3baaac406b44bceaa583460cfa6f40c2c1068cf2627e1b7c549"), looks := true }, kinds := [], alts := [], laidByText := true, laidKinds := [.data, .data, .data, .data, .sentinel, .sentinel, .data, .pinned], laidTests := true, laidLooks := .later }
def ClaimsWindowUptoCardSaid : Prop := Claim7.holds Tryz.pinned (.plain (OpenSpec.upto claimsWindowSpec)) claimsWindowUptoCard
end Rows
end Go.Proofs.YtpmikpijonccjaaGreatDoor
