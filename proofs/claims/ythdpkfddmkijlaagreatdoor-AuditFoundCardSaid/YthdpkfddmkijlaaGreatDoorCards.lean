/-
  DERIVED. GIVEN WITH THE SEED: THE CARDS: each row of YthdpkfddmkijlaaGreatDoorRows.lean that lists a variable, with what it lists TIED to the program's text (the seventh form; the later family's looks); each row that meets fmt, with fmt's text TOLD by the authors' own Lean function (tested against real Go, not proved from fmt's source: count such statements apart). THE CARD IS WHAT COUNTS. Prove the row's statement (the work); the ties are given (YthdpkfddmkijlaaGreatDoorTie.lean); close each card by the builder's one call (the guide's Derived/Test/ToyasCard.lean, 'card_holds'). Laid BY PROGRAM, IN A SANDBOX (cutbox-door.mjs). By AI agents, Wed Nov 11 2026. No macro, syntax, notation, axiom, sorry.
-/
import Derived.Test.YthdpkfddmkijlaaGreatDoorRows
import GoSem.ClaimSeven
namespace Go.Proofs.YthdpkfddmkijlaaGreatDoor
namespace Rows

/-- THE TIED CARD OF 'identitylaw50.AuditLines'. -/
def auditLinesCard : Claim7 := { stood := { row := auditLinesRow, standIns := [], harness := (true, "8ea4a8a9eb26eac968d5c0d0f904f5824adbd6964a224b9399aa009b14cb7f04"), looks := true }, kinds := [], alts := [], laidByText := true, laidKinds := [.data, .data, .data, .data, .sentinel, .sentinel, .data, .pinned], laidTests := true, laidLooks := .later }
def AuditLinesCardSaid : Prop := Claim7.holds Tryz.pinned (.plain (OpenSpec.ofChange auditLinesSpec)) auditLinesCard

/-- THE TIED CARD OF 'identitylaw50.AuditHeads'. -/
def auditHeadsCard : Claim7 := { stood := { row := auditHeadsRow, standIns := [], harness := (true, "8ea4a8a9eb26eac968d5c0d0f904f5824adbd6964a224b9399aa009b14cb7f04"), looks := true }, kinds := [], alts := [], laidByText := true, laidKinds := [.data, .data, .data, .data, .sentinel, .sentinel, .data, .pinned], laidTests := true, laidLooks := .later }
def AuditHeadsCardSaid : Prop := Claim7.holds Tryz.pinned (.plain (OpenSpec.ofChange auditHeadsSpec)) auditHeadsCard

/-- THE TIED CARD OF 'identitylaw50.AuditLogs'. -/
def auditLogsCard : Claim7 := { stood := { row := auditLogsRow, standIns := [], harness := (true, "8ea4a8a9eb26eac968d5c0d0f904f5824adbd6964a224b9399aa009b14cb7f04"), looks := true }, kinds := [], alts := [], laidByText := true, laidKinds := [.data, .data, .data, .data, .sentinel, .sentinel, .data, .pinned], laidTests := true, laidLooks := .later }
def AuditLogsCardSaid : Prop := Claim7.holds Tryz.pinned (.plain (OpenSpec.ofChange auditLogsSpec)) auditLogsCard

/-- THE TIED CARD OF 'identitylaw50.AuditBack'. -/
def auditBackCard : Claim7 := { stood := { row := auditBackRow, standIns := [], harness := (true, "8ea4a8a9eb26eac968d5c0d0f904f5824adbd6964a224b9399aa009b14cb7f04"), looks := true }, kinds := [], alts := [], laidByText := true, laidKinds := [.data, .data, .data, .data, .sentinel, .sentinel, .data, .pinned], laidTests := true, laidLooks := .later }
def AuditBackCardSaid : Prop := Claim7.holds Tryz.pinned (.plain (OpenSpec.ofChange auditBackSpec)) auditBackCard

/-- THE TIED CARD OF 'identitylaw50.AuditDetects'. -/
def auditDetectsCard : Claim7 := { stood := { row := auditDetectsRow, standIns := [], harness := (true, "8ea4a8a9eb26eac968d5c0d0f904f5824adbd6964a224b9399aa009b14cb7f04"), looks := true }, kinds := [], alts := [], laidByText := true, laidKinds := [.data, .data, .data, .data, .sentinel, .sentinel, .data, .pinned], laidTests := true, laidLooks := .later }
def AuditDetectsCardSaid : Prop := Claim7.holds Tryz.pinned (.plain (OpenSpec.ofChange auditDetectsSpec)) auditDetectsCard

/-- THE TIED CARD OF 'identitylaw50.AuditFound'. -/
def auditFoundCard : Claim7 := { stood := { row := auditFoundRow, standIns := [], harness := (true, "8ea4a8a9eb26eac968d5c0d0f904f5824adbd6964a224b9399aa009b14cb7f04"), looks := true }, kinds := [], alts := [], laidByText := true, laidKinds := [.data, .data, .data, .data, .sentinel, .sentinel, .data, .pinned], laidTests := true, laidLooks := .later }
def AuditFoundCardSaid : Prop := Claim7.holds Tryz.pinned (.plain (OpenSpec.ofChange auditFoundSpec)) auditFoundCard

/-- THE TIED CARD OF 'identitylaw50.AuditLog'. -/
def auditLogCard : Claim7 := { stood := { row := auditLogRow, standIns := [], harness := (true, "8ea4a8a9eb26eac968d5c0d0f904f5824adbd6964a224b9399aa009b14cb7f04"), looks := true }, kinds := [], alts := [], laidByText := true, laidKinds := [.data, .data, .data, .data, .sentinel, .sentinel, .data, .pinned], laidTests := true, laidLooks := .later }
def AuditLogCardSaid : Prop := Claim7.holds Tryz.pinned (.plain (OpenSpec.ofChange auditLogSpec)) auditLogCard

/-- THE SECOND FORM's CARD OF 'identitylaw50.AuditLines'. -/
def auditLinesUptoCard : Claim7 := { stood := { row := auditLinesUptoRow, standIns := [], harness := (true, "8ea4a8a9eb26eac968d5c0d0f904f5824adbd6964a224b9399aa009b14cb7f04"), looks := true }, kinds := [], alts := [], laidByText := true, laidKinds := [.data, .data, .data, .data, .sentinel, .sentinel, .data, .pinned], laidTests := true, laidLooks := .later }
def AuditLinesUptoCardSaid : Prop := Claim7.holds Tryz.pinned (.plain (OpenSpec.upto auditLinesSpec)) auditLinesUptoCard

/-- THE SECOND FORM's CARD OF 'identitylaw50.AuditHeads'. -/
def auditHeadsUptoCard : Claim7 := { stood := { row := auditHeadsUptoRow, standIns := [], harness := (true, "8ea4a8a9eb26eac968d5c0d0f904f5824adbd6964a224b9399aa009b14cb7f04"), looks := true }, kinds := [], alts := [], laidByText := true, laidKinds := [.data, .data, .data, .data, .sentinel, .sentinel, .data, .pinned], laidTests := true, laidLooks := .later }
def AuditHeadsUptoCardSaid : Prop := Claim7.holds Tryz.pinned (.plain (OpenSpec.upto auditHeadsSpec)) auditHeadsUptoCard

/-- THE SECOND FORM's CARD OF 'identitylaw50.AuditLogs'. -/
def auditLogsUptoCard : Claim7 := { stood := { row := auditLogsUptoRow, standIns := [], harness := (true, "8ea4a8a9eb26eac968d5c0d0f904f5824adbd6964a224b9399aa009b14cb7f04"), looks := true }, kinds := [], alts := [], laidByText := true, laidKinds := [.data, .data, .data, .data, .sentinel, .sentinel, .data, .pinned], laidTests := true, laidLooks := .later }
def AuditLogsUptoCardSaid : Prop := Claim7.holds Tryz.pinned (.plain (OpenSpec.upto auditLogsSpec)) auditLogsUptoCard

/-- THE SECOND FORM's CARD OF 'identitylaw50.AuditBack'. -/
def auditBackUptoCard : Claim7 := { stood := { row := auditBackUptoRow, standIns := [], harness := (true, "8ea4a8a9eb26eac968d5c0d0f904f5824adbd6964a224b9399aa009b14cb7f04"), looks := true }, kinds := [], alts := [], laidByText := true, laidKinds := [.data, .data, .data, .data, .sentinel, .sentinel, .data, .pinned], laidTests := true, laidLooks := .later }
def AuditBackUptoCardSaid : Prop := Claim7.holds Tryz.pinned (.plain (OpenSpec.upto auditBackSpec)) auditBackUptoCard

/-- THE SECOND FORM's CARD OF 'identitylaw50.AuditDetects'. -/
def auditDetectsUptoCard : Claim7 := { stood := { row := auditDetectsUptoRow, standIns := [], harness := (true, "8ea4a8a9eb26eac968d5c0d0f904f5824adbd6964a224b9399aa009b14cb7f04"), looks := true }, kinds := [], alts := [], laidByText := true, laidKinds := [.data, .data, .data, .data, .sentinel, .sentinel, .data, .pinned], laidTests := true, laidLooks := .later }
def AuditDetectsUptoCardSaid : Prop := Claim7.holds Tryz.pinned (.plain (OpenSpec.upto auditDetectsSpec)) auditDetectsUptoCard

/-- THE SECOND FORM's CARD OF 'identitylaw50.AuditFound'. -/
def auditFoundUptoCard : Claim7 := { stood := { row := auditFoundUptoRow, standIns := [], harness := (true, "8ea4a8a9eb26eac968d5c0d0f904f5824adbd6964a224b9399aa009b14cb7f04"), looks := true }, kinds := [], alts := [], laidByText := true, laidKinds := [.data, .data, .data, .data, .sentinel, .sentinel, .data, .pinned], laidTests := true, laidLooks := .later }
def AuditFoundUptoCardSaid : Prop := Claim7.holds Tryz.pinned (.plain (OpenSpec.upto auditFoundSpec)) auditFoundUptoCard

/-- THE SECOND FORM's CARD OF 'identitylaw50.AuditLog'. -/
def auditLogUptoCard : Claim7 := { stood := { row := auditLogUptoRow, standIns := [], harness := (true, "8ea4a8a9eb26eac968d5c0d0f904f5824adbd6964a224b9399aa009b14cb7f04"), looks := true }, kinds := [], alts := [], laidByText := true, laidKinds := [.data, .data, .data, .data, .sentinel, .sentinel, .data, .pinned], laidTests := true, laidLooks := .later }
def AuditLogUptoCardSaid : Prop := Claim7.holds Tryz.pinned (.plain (OpenSpec.upto auditLogSpec)) auditLogUptoCard
end Rows
end Go.Proofs.YthdpkfddmkijlaaGreatDoor
