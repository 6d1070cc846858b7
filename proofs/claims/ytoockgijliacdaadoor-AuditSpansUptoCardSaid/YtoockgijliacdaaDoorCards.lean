/-
  DERIVED. GIVEN WITH THE SEED: THE CARDS: each row of YtoockgijliacdaaDoorRows.lean that lists a variable, with what it lists TIED to the program's text (the seventh form; the later family's looks); each row that meets fmt, with fmt's text TOLD by the authors' own Lean function (tested against real Go, not proved from fmt's source: count such statements apart). THE CARD IS WHAT COUNTS. Prove the row's statement (the work); the ties are given (YtoockgijliacdaaDoorTie.lean); close each card by the builder's one call (the guide's Derived/Test/ToyasCard.lean, 'card_holds'). Laid BY PROGRAM, IN A SANDBOX (cutbox-door.mjs). By AI agents, Wed Nov 11 2026. No macro, syntax, notation, axiom, sorry.
-/
import Derived.Test.YtoockgijliacdaaDoorRows
import GoSem.ClaimSeven
namespace Go.Proofs.YtoockgijliacdaaDoor
namespace Rows

/-- THE TIED CARD OF 'speculumlaw25.QueryParses'. -/
def queryParsesCard : Claim7 := { stood := { row := queryParsesRow, standIns := [], harness := (true, "f70acd7f0c35a5e4900fbe79421fb4366cdea50471f023a29389d01d779968e3"), looks := true }, kinds := [], alts := [], laidByText := true, laidKinds := [.data, .data, .pinned], laidTests := true, laidLooks := .later }
def QueryParsesCardSaid : Prop := Claim7.holds Tryd.pinned (.plain (OpenSpec.ofChange queryParsesSpec)) queryParsesCard

/-- THE TIED CARD OF 'speculumlaw25.QueryTexts'. -/
def queryTextsCard : Claim7 := { stood := { row := queryTextsRow, standIns := [], harness := (true, "f70acd7f0c35a5e4900fbe79421fb4366cdea50471f023a29389d01d779968e3"), looks := true }, kinds := [], alts := [], laidByText := true, laidKinds := [.data, .data, .pinned], laidTests := true, laidLooks := .later }
def QueryTextsCardSaid : Prop := Claim7.holds Tryd.pinned (.plain (OpenSpec.ofChange queryTextsSpec)) queryTextsCard

/-- THE TIED CARD OF 'speculumlaw25.QuerySame'. -/
def querySameCard : Claim7 := { stood := { row := querySameRow, standIns := [], harness := (true, "f70acd7f0c35a5e4900fbe79421fb4366cdea50471f023a29389d01d779968e3"), looks := true }, kinds := [], alts := [], laidByText := true, laidKinds := [.data, .data, .pinned], laidTests := true, laidLooks := .later }
def QuerySameCardSaid : Prop := Claim7.holds Tryd.pinned (.plain (OpenSpec.ofChange querySameSpec)) querySameCard

/-- THE TIED CARD OF 'speculumlaw25.QueryBack'. -/
def queryBackCard : Claim7 := { stood := { row := queryBackRow, standIns := [], harness := (true, "f70acd7f0c35a5e4900fbe79421fb4366cdea50471f023a29389d01d779968e3"), looks := true }, kinds := [], alts := [], laidByText := true, laidKinds := [.data, .data, .pinned], laidTests := true, laidLooks := .later }
def QueryBackCardSaid : Prop := Claim7.holds Tryd.pinned (.plain (OpenSpec.ofChange queryBackSpec)) queryBackCard

/-- THE TIED CARD OF 'speculumlaw31.AuditReplies'. -/
def auditRepliesCard : Claim7 := { stood := { row := auditRepliesRow, standIns := [], harness := (true, "f70acd7f0c35a5e4900fbe79421fb4366cdea50471f023a29389d01d779968e3"), looks := true }, kinds := [], alts := [], laidByText := true, laidKinds := [.data, .data, .data, .pinned], laidTests := true, laidLooks := .later }
def AuditRepliesCardSaid : Prop := Claim7.holds Tryd.pinned (.plain (OpenSpec.ofChange auditRepliesSpec)) auditRepliesCard

/-- THE TIED CARD OF 'speculumlaw31.AuditJoins'. -/
def auditJoinsCard : Claim7 := { stood := { row := auditJoinsRow, standIns := [], harness := (true, "f70acd7f0c35a5e4900fbe79421fb4366cdea50471f023a29389d01d779968e3"), looks := true }, kinds := [], alts := [], laidByText := true, laidKinds := [.data, .data, .data, .pinned], laidTests := true, laidLooks := .later }
def AuditJoinsCardSaid : Prop := Claim7.holds Tryd.pinned (.plain (OpenSpec.ofChange auditJoinsSpec)) auditJoinsCard

/-- THE TIED CARD OF 'speculumlaw31.AuditSpans'. -/
def auditSpansCard : Claim7 := { stood := { row := auditSpansRow, standIns := [], harness := (true, "f70acd7f0c35a5e4900fbe79421fb4366cdea50471f023a29389d01d779968e3"), looks := true }, kinds := [], alts := [], laidByText := true, laidKinds := [.data, .data, .data, .pinned], laidTests := true, laidLooks := .later }
def AuditSpansCardSaid : Prop := Claim7.holds Tryd.pinned (.plain (OpenSpec.ofChange auditSpansSpec)) auditSpansCard

/-- THE SECOND FORM's CARD OF 'speculumlaw25.QueryParses'. -/
def queryParsesUptoCard : Claim7 := { stood := { row := queryParsesUptoRow, standIns := [], harness := (true, "f70acd7f0c35a5e4900fbe79421fb4366cdea50471f023a29389d01d779968e3"), looks := true }, kinds := [], alts := [], laidByText := true, laidKinds := [.data, .data, .pinned], laidTests := true, laidLooks := .later }
def QueryParsesUptoCardSaid : Prop := Claim7.holds Tryd.pinned (.plain (OpenSpec.upto queryParsesSpec)) queryParsesUptoCard

/-- THE SECOND FORM's CARD OF 'speculumlaw25.QueryTexts'. -/
def queryTextsUptoCard : Claim7 := { stood := { row := queryTextsUptoRow, standIns := [], harness := (true, "f70acd7f0c35a5e4900fbe79421fb4366cdea50471f023a29389d01d779968e3"), looks := true }, kinds := [], alts := [], laidByText := true, laidKinds := [.data, .data, .pinned], laidTests := true, laidLooks := .later }
def QueryTextsUptoCardSaid : Prop := Claim7.holds Tryd.pinned (.plain (OpenSpec.upto queryTextsSpec)) queryTextsUptoCard

/-- THE SECOND FORM's CARD OF 'speculumlaw25.QuerySame'. -/
def querySameUptoCard : Claim7 := { stood := { row := querySameUptoRow, standIns := [], harness := (true, "f70acd7f0c35a5e4900fbe79421fb4366cdea50471f023a29389d01d779968e3"), looks := true }, kinds := [], alts := [], laidByText := true, laidKinds := [.data, .data, .pinned], laidTests := true, laidLooks := .later }
def QuerySameUptoCardSaid : Prop := Claim7.holds Tryd.pinned (.plain (OpenSpec.upto querySameSpec)) querySameUptoCard

/-- THE SECOND FORM's CARD OF 'speculumlaw25.QueryBack'. -/
def queryBackUptoCard : Claim7 := { stood := { row := queryBackUptoRow, standIns := [], harness := (true, "f70acd7f0c35a5e4900fbe79421fb4366cdea50471f023a29389d01d779968e3"), looks := true }, kinds := [], alts := [], laidByText := true, laidKinds := [.data, .data, .pinned], laidTests := true, laidLooks := .later }
def QueryBackUptoCardSaid : Prop := Claim7.holds Tryd.pinned (.plain (OpenSpec.upto queryBackSpec)) queryBackUptoCard

/-- THE SECOND FORM's CARD OF 'speculumlaw31.AuditReplies'. -/
def auditRepliesUptoCard : Claim7 := { stood := { row := auditRepliesUptoRow, standIns := [], harness := (true, "f70acd7f0c35a5e4900fbe79421fb4366cdea50471f023a29389d01d779968e3"), looks := true }, kinds := [], alts := [], laidByText := true, laidKinds := [.data, .data, .data, .pinned], laidTests := true, laidLooks := .later }
def AuditRepliesUptoCardSaid : Prop := Claim7.holds Tryd.pinned (.plain (OpenSpec.upto auditRepliesSpec)) auditRepliesUptoCard

/-- THE SECOND FORM's CARD OF 'speculumlaw31.AuditJoins'. -/
def auditJoinsUptoCard : Claim7 := { stood := { row := auditJoinsUptoRow, standIns := [], harness := (true, "f70acd7f0c35a5e4900fbe79421fb4366cdea50471f023a29389d01d779968e3"), looks := true }, kinds := [], alts := [], laidByText := true, laidKinds := [.data, .data, .data, .pinned], laidTests := true, laidLooks := .later }
def AuditJoinsUptoCardSaid : Prop := Claim7.holds Tryd.pinned (.plain (OpenSpec.upto auditJoinsSpec)) auditJoinsUptoCard

/-- THE SECOND FORM's CARD OF 'speculumlaw31.AuditSpans'. -/
def auditSpansUptoCard : Claim7 := { stood := { row := auditSpansUptoRow, standIns := [], harness := (true, "f70acd7f0c35a5e4900fbe79421fb4366cdea50471f023a29389d01d779968e3"), looks := true }, kinds := [], alts := [], laidByText := true, laidKinds := [.data, .data, .data, .pinned], laidTests := true, laidLooks := .later }
def AuditSpansUptoCardSaid : Prop := Claim7.holds Tryd.pinned (.plain (OpenSpec.upto auditSpansSpec)) auditSpansUptoCard
end Rows
end Go.Proofs.YtoockgijliacdaaDoor
