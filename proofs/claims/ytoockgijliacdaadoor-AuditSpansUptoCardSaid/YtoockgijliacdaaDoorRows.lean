/-
  NARROWER THAN 'FOR EVERY INPUT', by the rows' own cells (each row's printed sentence says how): QueryParses: laid · QueryTexts: laid · QuerySame: laid · QueryBack: laid · AuditReplies: laid · AuditJoins: laid · AuditSpans: laid.
  DERIVED. THE GIVEN ROWS OF THIS SEAT. 7 by the template 'for every input the law returns true; each argument reads behind the call as it read before'; 0 by the template 'total and deterministic' (their statements: YtoockgijliacdaaDoorTotals.lean).
  GIVEN WITH THE SEED: the statements are not yours to turn. If you find one false, say at which input.
  Laid BY PROGRAM, IN A SANDBOX (cutbox-rows.mjs): the forced cells as the released guide's own fill.sh prints them over the translation b1371b0016beece3… (all of the seat's roots in one cut). By AI agents, Wed Nov 11 2026. No macro, syntax, notation, axiom, sorry.
-/
import Derived.Test.YtoockgijliacdaaDoorChecked
import GoSem.PinnedTables
import GoSem.Claim
import GoSem.ClaimJoined
import GoSem.ClaimMapViews
import Derived.JoinedTies
import Derived.KernelRfl
namespace Go.Proofs.YtoockgijliacdaaDoor
/- THE CELL 'sum', in the pinned program and in every row, IS THE sha256 OF THE DUMP (.gsa) THAT YtoockgijliacdaaDoorProg.lean LOADS. Nothing in Lean hashes anything: it is a label: what it is worth is what the hold of that sum in a sandbox is worth. -/
noncomputable def Tryd.pinned : Pinned := { name := "ytoockgijliacdaadoor", sum := "b1371b0016beece362f458e8633f64c11d5b918e31e08d7c25fa3ab1542b213e", checked := Tryd.checked }
namespace Rows
def none {H : Type} : Left H := { results := [], args := [] }

/- WHAT THE LISTED PACKAGE-LEVEL VARIABLES READ AS WHEN THE CALL BEGINS. Each datum BY PROGRAM (the guide's laid-datum.mjs) off the statement by which the dump's own 'gosem.cut.vars' lays the variable. In a bare row this is a premise. The card (YtoockgijliacdaaDoorCards.lean) ties it to the program's text. -/
def laid_speculum_octet_digits {H : Type} : DataW H := .agg [.lit (.int .u8 48), .lit (.int .u8 49), .lit (.int .u8 50), .lit (.int .u8 51), .lit (.int .u8 52), .lit (.int .u8 53), .lit (.int .u8 54), .lit (.int .u8 55), .lit (.int .u8 56), .lit (.int .u8 57), .lit (.int .u8 97), .lit (.int .u8 98), .lit (.int .u8 99), .lit (.int .u8 100), .lit (.int .u8 101), .lit (.int .u8 102)]
def laid_unicode_utf8_acceptRanges {H : Type} : DataW H := .agg [.agg [.lit (.int .u8 128), .lit (.int .u8 191)], .agg [.lit (.int .u8 160), .lit (.int .u8 191)], .agg [.lit (.int .u8 128), .lit (.int .u8 159)], .agg [.lit (.int .u8 144), .lit (.int .u8 191)], .agg [.lit (.int .u8 128), .lit (.int .u8 143)], .agg [.lit (.int .u8 0), .lit (.int .u8 0)], .agg [.lit (.int .u8 0), .lit (.int .u8 0)], .agg [.lit (.int .u8 0), .lit (.int .u8 0)], .agg [.lit (.int .u8 0), .lit (.int .u8 0)], .agg [.lit (.int .u8 0), .lit (.int .u8 0)], .agg [.lit (.int .u8 0), .lit (.int .u8 0)], .agg [.lit (.int .u8 0), .lit (.int .u8 0)], .agg [.lit (.int .u8 0), .lit (.int .u8 0)], .agg [.lit (.int .u8 0), .lit (.int .u8 0)], .agg [.lit (.int .u8 0), .lit (.int .u8 0)], .agg [.lit (.int .u8 0), .lit (.int .u8 0)]]
/-- One of Go's own tables, pinned by name: the form's constant. -/
def laid_unicode_utf8_first : DataW Unit := Go.Pinned.utf8First
def laid_speculum_fsm_table {H : Type} : DataW H := .agg [.agg [.agg [.lit (.int .i64 1), .lit (.int .i64 129)], .agg [.lit (.int .i64 0), .lit (.int .i64 0)], .agg [.lit (.int .i64 0), .lit (.int .i64 2)], .agg [.lit (.int .i64 0), .lit (.int .i64 0)], .agg [.lit (.int .i64 0), .lit (.int .i64 0)], .agg [.lit (.int .i64 0), .lit (.int .i64 0)], .agg [.lit (.int .i64 0), .lit (.int .i64 0)], .agg [.lit (.int .i64 0), .lit (.int .i64 0)], .agg [.lit (.int .i64 0), .lit (.int .i64 0)], .agg [.lit (.int .i64 0), .lit (.int .i64 0)], .agg [.lit (.int .i64 0), .lit (.int .i64 0)], .agg [.lit (.int .i64 0), .lit (.int .i64 0)], .agg [.lit (.int .i64 0), .lit (.int .i64 0)], .agg [.lit (.int .i64 0), .lit (.int .i64 0)], .agg [.lit (.int .i64 0), .lit (.int .i64 0)], .agg [.lit (.int .i64 0), .lit (.int .i64 0)]], .agg [.agg [.lit (.int .i64 1), .lit (.int .i64 0)], .agg [.lit (.int .i64 0), .lit (.int .i64 2050)], .agg [.lit (.int .i64 3), .lit (.int .i64 2308)], .agg [.lit (.int .i64 2), .lit (.int .i64 128)], .agg [.lit (.int .i64 1), .lit (.int .i64 129)], .agg [.lit (.int .i64 0), .lit (.int .i64 2050)], .agg [.lit (.int .i64 0), .lit (.int .i64 2050)], .agg [.lit (.int .i64 0), .lit (.int .i64 2050)], .agg [.lit (.int .i64 0), .lit (.int .i64 2050)], .agg [.lit (.int .i64 0), .lit (.int .i64 2050)], .agg [.lit (.int .i64 0), .lit (.int .i64 2050)], .agg [.lit (.int .i64 0), .lit (.int .i64 2050)], .agg [.lit (.int .i64 0), .lit (.int .i64 2050)], .agg [.lit (.int .i64 0), .lit (.int .i64 2050)], .agg [.lit (.int .i64 0), .lit (.int .i64 2050)], .agg [.lit (.int .i64 0), .lit (.int .i64 2050)]], .agg [.agg [.lit (.int .i64 2), .lit (.int .i64 0)], .agg [.lit (.int .i64 0), .lit (.int .i64 2050)], .agg [.lit (.int .i64 3), .lit (.int .i64 2308)], .agg [.lit (.int .i64 0), .lit (.int .i64 2050)], .agg [.lit (.int .i64 1), .lit (.int .i64 129)], .agg [.lit (.int .i64 0), .lit (.int .i64 2050)], .agg [.lit (.int .i64 0), .lit (.int .i64 2050)], .agg [.lit (.int .i64 0), .lit (.int .i64 2050)], .agg [.lit (.int .i64 0), .lit (.int .i64 2050)], .agg [.lit (.int .i64 0), .lit (.int .i64 2050)], .agg [.lit (.int .i64 0), .lit (.int .i64 2050)], .agg [.lit (.int .i64 0), .lit (.int .i64 2050)], .agg [.lit (.int .i64 0), .lit (.int .i64 2050)], .agg [.lit (.int .i64 0), .lit (.int .i64 2050)], .agg [.lit (.int .i64 0), .lit (.int .i64 2050)], .agg [.lit (.int .i64 0), .lit (.int .i64 2050)]], .agg [.agg [.lit (.int .i64 3), .lit (.int .i64 0)], .agg [.lit (.int .i64 0), .lit (.int .i64 2066)], .agg [.lit (.int .i64 3), .lit (.int .i64 0)], .agg [.lit (.int .i64 2), .lit (.int .i64 2176)], .agg [.lit (.int .i64 0), .lit (.int .i64 2066)], .agg [.lit (.int .i64 0), .lit (.int .i64 2066)], .agg [.lit (.int .i64 0), .lit (.int .i64 2066)], .agg [.lit (.int .i64 4), .lit (.int .i64 1544)], .agg [.lit (.int .i64 0), .lit (.int .i64 2066)], .agg [.lit (.int .i64 0), .lit (.int .i64 2066)], .agg [.lit (.int .i64 0), .lit (.int .i64 2066)], .agg [.lit (.int .i64 0), .lit (.int .i64 2050)], .agg [.lit (.int .i64 0), .lit (.int .i64 2066)], .agg [.lit (.int .i64 0), .lit (.int .i64 2066)], .agg [.lit (.int .i64 0), .lit (.int .i64 2066)], .agg [.lit (.int .i64 0), .lit (.int .i64 2066)]], .agg [.agg [.lit (.int .i64 4), .lit (.int .i64 0)], .agg [.lit (.int .i64 0), .lit (.int .i64 2066)], .agg [.lit (.int .i64 4), .lit (.int .i64 0)], .agg [.lit (.int .i64 0), .lit (.int .i64 2048)], .agg [.lit (.int .i64 0), .lit (.int .i64 2066)], .agg [.lit (.int .i64 0), .lit (.int .i64 2066)], .agg [.lit (.int .i64 4), .lit (.int .i64 1032)], .agg [.lit (.int .i64 0), .lit (.int .i64 2066)], .agg [.lit (.int .i64 0), .lit (.int .i64 2066)], .agg [.lit (.int .i64 0), .lit (.int .i64 2066)], .agg [.lit (.int .i64 0), .lit (.int .i64 2066)], .agg [.lit (.int .i64 0), .lit (.int .i64 2050)], .agg [.lit (.int .i64 5), .lit (.int .i64 544)], .agg [.lit (.int .i64 0), .lit (.int .i64 2066)], .agg [.lit (.int .i64 0), .lit (.int .i64 2066)], .agg [.lit (.int .i64 0), .lit (.int .i64 2066)]], .agg [.agg [.lit (.int .i64 5), .lit (.int .i64 0)], .agg [.lit (.int .i64 0), .lit (.int .i64 2130)], .agg [.lit (.int .i64 5), .lit (.int .i64 0)], .agg [.lit (.int .i64 0), .lit (.int .i64 2112)], .agg [.lit (.int .i64 0), .lit (.int .i64 2130)], .agg [.lit (.int .i64 0), .lit (.int .i64 2130)], .agg [.lit (.int .i64 5), .lit (.int .i64 1032)], .agg [.lit (.int .i64 0), .lit (.int .i64 2130)], .agg [.lit (.int .i64 0), .lit (.int .i64 2130)], .agg [.lit (.int .i64 0), .lit (.int .i64 2130)], .agg [.lit (.int .i64 0), .lit (.int .i64 2130)], .agg [.lit (.int .i64 0), .lit (.int .i64 2114)], .agg [.lit (.int .i64 5), .lit (.int .i64 512)], .agg [.lit (.int .i64 5), .lit (.int .i64 512)], .agg [.lit (.int .i64 0), .lit (.int .i64 2130)], .agg [.lit (.int .i64 0), .lit (.int .i64 2130)]]]

/-- 'speculumlaw25.QueryParses': WHATEVER THE INPUT: true; the input reads as it did. -/
def queryParsesSpec : ChangeSpec := { name := "queryParses", fn := fun _ => fun
  | [d] => { results := [.lit (.bool true)], args := [d] }
  | _ => none }
def queryParsesRow : OpenClaim := { program := "ytoockgijliacdaadoor", sum := "b1371b0016beece362f458e8633f64c11d5b918e31e08d7c25fa3ab1542b213e", func := "speculum/speculumlaw25.QueryParses", spec := "queryParses", unfollowed := true, recurses := true, named := ["unicode/utf8.first", "unicode/utf8.acceptRanges", "speculum/octet.digits"], apart := false, laid := [("speculum/octet.digits", laid_speculum_octet_digits), ("unicode/utf8.acceptRanges", laid_unicode_utf8_acceptRanges), ("unicode/utf8.first", laid_unicode_utf8_first)] }
def QueryParsesSaid : Prop := queryParsesRow.holds Tryd.pinned (OpenSpec.ofChange queryParsesSpec)

/-- ITS FALSE NEIGHBOUR: 'it returns false'. Refute it at one input. -/
def queryParsesWrong : ChangeSpec := { name := "queryParses", fn := fun _ => fun
  | [d] => { results := [.lit (.bool false)], args := [d] }
  | _ => none }
def QueryParsesWrongFalsely : Prop := queryParsesRow.holds Tryd.pinned (OpenSpec.ofChange queryParsesWrong)

/-- 'speculumlaw25.QueryTexts': WHATEVER THE INPUT: true; the input reads as it did. -/
def queryTextsSpec : ChangeSpec := { name := "queryTexts", fn := fun _ => fun
  | [d] => { results := [.lit (.bool true)], args := [d] }
  | _ => none }
def queryTextsRow : OpenClaim := { program := "ytoockgijliacdaadoor", sum := "b1371b0016beece362f458e8633f64c11d5b918e31e08d7c25fa3ab1542b213e", func := "speculum/speculumlaw25.QueryTexts", spec := "queryTexts", unfollowed := true, recurses := true, named := ["unicode/utf8.first", "unicode/utf8.acceptRanges", "speculum/octet.digits"], apart := false, laid := [("speculum/octet.digits", laid_speculum_octet_digits), ("unicode/utf8.acceptRanges", laid_unicode_utf8_acceptRanges), ("unicode/utf8.first", laid_unicode_utf8_first)] }
def QueryTextsSaid : Prop := queryTextsRow.holds Tryd.pinned (OpenSpec.ofChange queryTextsSpec)

/-- ITS FALSE NEIGHBOUR: 'it returns false'. Refute it at one input. -/
def queryTextsWrong : ChangeSpec := { name := "queryTexts", fn := fun _ => fun
  | [d] => { results := [.lit (.bool false)], args := [d] }
  | _ => none }
def QueryTextsWrongFalsely : Prop := queryTextsRow.holds Tryd.pinned (OpenSpec.ofChange queryTextsWrong)

/-- 'speculumlaw25.QuerySame': WHATEVER THE INPUT: true; the input reads as it did. -/
def querySameSpec : ChangeSpec := { name := "querySame", fn := fun _ => fun
  | [d1, d2] => { results := [.lit (.bool true)], args := [d1, d2] }
  | _ => none }
def querySameRow : OpenClaim := { program := "ytoockgijliacdaadoor", sum := "b1371b0016beece362f458e8633f64c11d5b918e31e08d7c25fa3ab1542b213e", func := "speculum/speculumlaw25.QuerySame", spec := "querySame", unfollowed := true, recurses := true, named := ["unicode/utf8.first", "unicode/utf8.acceptRanges", "speculum/octet.digits"], apart := false, laid := [("speculum/octet.digits", laid_speculum_octet_digits), ("unicode/utf8.acceptRanges", laid_unicode_utf8_acceptRanges), ("unicode/utf8.first", laid_unicode_utf8_first)] }
def QuerySameSaid : Prop := querySameRow.holds Tryd.pinned (OpenSpec.ofChange querySameSpec)

/-- ITS FALSE NEIGHBOUR: 'it returns false'. Refute it at one input. -/
def querySameWrong : ChangeSpec := { name := "querySame", fn := fun _ => fun
  | [d1, d2] => { results := [.lit (.bool false)], args := [d1, d2] }
  | _ => none }
def QuerySameWrongFalsely : Prop := querySameRow.holds Tryd.pinned (OpenSpec.ofChange querySameWrong)

/-- 'speculumlaw25.QueryBack': WHATEVER THE INPUT: true; the input reads as it did. -/
def queryBackSpec : ChangeSpec := { name := "queryBack", fn := fun _ => fun
  | [d] => { results := [.lit (.bool true)], args := [d] }
  | _ => none }
def queryBackRow : OpenClaim := { program := "ytoockgijliacdaadoor", sum := "b1371b0016beece362f458e8633f64c11d5b918e31e08d7c25fa3ab1542b213e", func := "speculum/speculumlaw25.QueryBack", spec := "queryBack", unfollowed := true, recurses := true, named := ["unicode/utf8.first", "unicode/utf8.acceptRanges", "speculum/octet.digits"], apart := false, laid := [("speculum/octet.digits", laid_speculum_octet_digits), ("unicode/utf8.acceptRanges", laid_unicode_utf8_acceptRanges), ("unicode/utf8.first", laid_unicode_utf8_first)] }
def QueryBackSaid : Prop := queryBackRow.holds Tryd.pinned (OpenSpec.ofChange queryBackSpec)

/-- ITS FALSE NEIGHBOUR: 'it returns false'. Refute it at one input. -/
def queryBackWrong : ChangeSpec := { name := "queryBack", fn := fun _ => fun
  | [d] => { results := [.lit (.bool false)], args := [d] }
  | _ => none }
def QueryBackWrongFalsely : Prop := queryBackRow.holds Tryd.pinned (OpenSpec.ofChange queryBackWrong)

/-- 'speculumlaw31.AuditReplies': WHATEVER THE INPUT: true; the input reads as it did. -/
def auditRepliesSpec : ChangeSpec := { name := "auditReplies", fn := fun _ => fun
  | [d] => { results := [.lit (.bool true)], args := [d] }
  | _ => none }
def auditRepliesRow : OpenClaim := { program := "ytoockgijliacdaadoor", sum := "b1371b0016beece362f458e8633f64c11d5b918e31e08d7c25fa3ab1542b213e", func := "speculum/speculumlaw31.AuditReplies", spec := "auditReplies", inPlace := ["internal/bytealg.IndexByte", "internal/bytealg.IndexByteString", "internal/bytealg.IndexString", "internal/bytealg.CountString"], unfollowed := true, recurses := true, named := ["internal/bytealg.MaxLen", "speculum/octet.digits", "unicode/utf8.first", "unicode/utf8.acceptRanges", "speculum/fsm.table"], apart := false, laid := [("speculum/octet.digits", laid_speculum_octet_digits), ("unicode/utf8.acceptRanges", laid_unicode_utf8_acceptRanges), ("speculum/fsm.table", laid_speculum_fsm_table), ("unicode/utf8.first", laid_unicode_utf8_first)] }
def AuditRepliesSaid : Prop := auditRepliesRow.holds Tryd.pinned (OpenSpec.ofChange auditRepliesSpec)

/-- ITS FALSE NEIGHBOUR: 'it returns false'. Refute it at one input. -/
def auditRepliesWrong : ChangeSpec := { name := "auditReplies", fn := fun _ => fun
  | [d] => { results := [.lit (.bool false)], args := [d] }
  | _ => none }
def AuditRepliesWrongFalsely : Prop := auditRepliesRow.holds Tryd.pinned (OpenSpec.ofChange auditRepliesWrong)

/-- 'speculumlaw31.AuditJoins': WHATEVER THE INPUT: true; the input reads as it did. -/
def auditJoinsSpec : ChangeSpec := { name := "auditJoins", fn := fun _ => fun
  | [d1, d2] => { results := [.lit (.bool true)], args := [d1, d2] }
  | _ => none }
def auditJoinsRow : OpenClaim := { program := "ytoockgijliacdaadoor", sum := "b1371b0016beece362f458e8633f64c11d5b918e31e08d7c25fa3ab1542b213e", func := "speculum/speculumlaw31.AuditJoins", spec := "auditJoins", inPlace := ["internal/bytealg.IndexByte", "internal/bytealg.IndexByteString", "internal/bytealg.IndexString", "internal/bytealg.CountString"], unfollowed := true, recurses := true, named := ["internal/bytealg.MaxLen", "speculum/octet.digits", "unicode/utf8.first", "unicode/utf8.acceptRanges", "speculum/fsm.table"], apart := false, laid := [("speculum/octet.digits", laid_speculum_octet_digits), ("unicode/utf8.acceptRanges", laid_unicode_utf8_acceptRanges), ("speculum/fsm.table", laid_speculum_fsm_table), ("unicode/utf8.first", laid_unicode_utf8_first)] }
def AuditJoinsSaid : Prop := auditJoinsRow.holds Tryd.pinned (OpenSpec.ofChange auditJoinsSpec)

/-- ITS FALSE NEIGHBOUR: 'it returns false'. Refute it at one input. -/
def auditJoinsWrong : ChangeSpec := { name := "auditJoins", fn := fun _ => fun
  | [d1, d2] => { results := [.lit (.bool false)], args := [d1, d2] }
  | _ => none }
def AuditJoinsWrongFalsely : Prop := auditJoinsRow.holds Tryd.pinned (OpenSpec.ofChange auditJoinsWrong)

/-- 'speculumlaw31.AuditSpans': WHATEVER THE INPUT: true; the input reads as it did. -/
def auditSpansSpec : ChangeSpec := { name := "auditSpans", fn := fun _ => fun
  | [d1, d2] => { results := [.lit (.bool true)], args := [d1, d2] }
  | _ => none }
def auditSpansRow : OpenClaim := { program := "ytoockgijliacdaadoor", sum := "b1371b0016beece362f458e8633f64c11d5b918e31e08d7c25fa3ab1542b213e", func := "speculum/speculumlaw31.AuditSpans", spec := "auditSpans", inPlace := ["internal/bytealg.IndexByte", "internal/bytealg.IndexByteString", "internal/bytealg.IndexString", "internal/bytealg.CountString"], unfollowed := true, recurses := true, named := ["internal/bytealg.MaxLen", "speculum/octet.digits", "unicode/utf8.first", "unicode/utf8.acceptRanges", "speculum/fsm.table"], apart := false, laid := [("speculum/octet.digits", laid_speculum_octet_digits), ("unicode/utf8.acceptRanges", laid_unicode_utf8_acceptRanges), ("speculum/fsm.table", laid_speculum_fsm_table), ("unicode/utf8.first", laid_unicode_utf8_first)] }
def AuditSpansSaid : Prop := auditSpansRow.holds Tryd.pinned (OpenSpec.ofChange auditSpansSpec)

/-- ITS FALSE NEIGHBOUR: 'it returns false'. Refute it at one input. -/
def auditSpansWrong : ChangeSpec := { name := "auditSpans", fn := fun _ => fun
  | [d1, d2] => { results := [.lit (.bool false)], args := [d1, d2] }
  | _ => none }
def AuditSpansWrongFalsely : Prop := auditSpansRow.holds Tryd.pinned (OpenSpec.ofChange auditSpansWrong)

/- THE SECOND FORM. 'bulk': how many values and letters a reading holds, each counted each time it is reached (what is shared counts as often as it is met; a slice's spare places count too). A statement '..UptoSaid' is the law's where the arguments, and the package variables that the reading takes, are together of bulk at most 1048576: NARROWER than '..Said'. Prove '..Said' where nothing that the law and all that it calls make is longer than what came in: it says more and counts as full. Else prove '..UptoSaid'. A law counts once. -/
mutual
def uptoBulk {H : Type} : DataW H → Nat
  | .lit (.string bytes) => bytes.length + 1
  | .lit _ => 1
  | .nil => 1
  | .ptr d => uptoBulk d + 1
  | .slice elems spare => uptoBulkAll elems + uptoBulkAll spare + 1
  | .agg parts => uptoBulkAll parts + 1
  | .iface _ d => uptoBulk d + 1
  | .map entries => uptoBulkEntries entries + 1
  | .held _ => 1
def uptoBulkAll {H : Type} : List (DataW H) → Nat
  | [] => 0
  | d :: r => uptoBulk d + uptoBulkAll r
def uptoBulkEntries {H : Type} : List (Lit × DataW H) → Nat
  | [] => 0
  | x :: r => uptoBulkEntry x + uptoBulkEntries r
def uptoBulkEntry {H : Type} : Lit × DataW H → Nat
  | (.string bytes, d) => bytes.length + uptoBulk d + 1
  | (_, d) => uptoBulk d + 1
 end
def uptoSmall : (H : Type) → List (DataW H) → Bool := fun _ ds => decide (uptoBulkAll ds ≤ 1048576)
def OpenSpec.upto (s : _root_.Go.ChangeSpec) : _root_.Go.OpenSpec := { _root_.Go.OpenSpec.ofChange s with cond := some uptoSmall }

/-- 'speculumlaw25.QueryParses', WHERE WHAT IT READS IS OF BULK AT MOST 1048576: true; the input reads as it did. -/
def queryParsesUptoRow : OpenClaim := { program := "ytoockgijliacdaadoor", sum := "b1371b0016beece362f458e8633f64c11d5b918e31e08d7c25fa3ab1542b213e", func := "speculum/speculumlaw25.QueryParses", spec := "queryParses", unfollowed := true, recurses := true, named := ["unicode/utf8.first", "unicode/utf8.acceptRanges", "speculum/octet.digits"], apart := false, laid := [("speculum/octet.digits", laid_speculum_octet_digits), ("unicode/utf8.acceptRanges", laid_unicode_utf8_acceptRanges), ("unicode/utf8.first", laid_unicode_utf8_first)], narrowed := true }
def QueryParsesUptoSaid : Prop := queryParsesUptoRow.holds Tryd.pinned (OpenSpec.upto queryParsesSpec)

/-- 'speculumlaw25.QueryTexts', WHERE WHAT IT READS IS OF BULK AT MOST 1048576: true; the input reads as it did. -/
def queryTextsUptoRow : OpenClaim := { program := "ytoockgijliacdaadoor", sum := "b1371b0016beece362f458e8633f64c11d5b918e31e08d7c25fa3ab1542b213e", func := "speculum/speculumlaw25.QueryTexts", spec := "queryTexts", unfollowed := true, recurses := true, named := ["unicode/utf8.first", "unicode/utf8.acceptRanges", "speculum/octet.digits"], apart := false, laid := [("speculum/octet.digits", laid_speculum_octet_digits), ("unicode/utf8.acceptRanges", laid_unicode_utf8_acceptRanges), ("unicode/utf8.first", laid_unicode_utf8_first)], narrowed := true }
def QueryTextsUptoSaid : Prop := queryTextsUptoRow.holds Tryd.pinned (OpenSpec.upto queryTextsSpec)

/-- 'speculumlaw25.QuerySame', WHERE WHAT IT READS IS OF BULK AT MOST 1048576: true; the input reads as it did. -/
def querySameUptoRow : OpenClaim := { program := "ytoockgijliacdaadoor", sum := "b1371b0016beece362f458e8633f64c11d5b918e31e08d7c25fa3ab1542b213e", func := "speculum/speculumlaw25.QuerySame", spec := "querySame", unfollowed := true, recurses := true, named := ["unicode/utf8.first", "unicode/utf8.acceptRanges", "speculum/octet.digits"], apart := false, laid := [("speculum/octet.digits", laid_speculum_octet_digits), ("unicode/utf8.acceptRanges", laid_unicode_utf8_acceptRanges), ("unicode/utf8.first", laid_unicode_utf8_first)], narrowed := true }
def QuerySameUptoSaid : Prop := querySameUptoRow.holds Tryd.pinned (OpenSpec.upto querySameSpec)

/-- 'speculumlaw25.QueryBack', WHERE WHAT IT READS IS OF BULK AT MOST 1048576: true; the input reads as it did. -/
def queryBackUptoRow : OpenClaim := { program := "ytoockgijliacdaadoor", sum := "b1371b0016beece362f458e8633f64c11d5b918e31e08d7c25fa3ab1542b213e", func := "speculum/speculumlaw25.QueryBack", spec := "queryBack", unfollowed := true, recurses := true, named := ["unicode/utf8.first", "unicode/utf8.acceptRanges", "speculum/octet.digits"], apart := false, laid := [("speculum/octet.digits", laid_speculum_octet_digits), ("unicode/utf8.acceptRanges", laid_unicode_utf8_acceptRanges), ("unicode/utf8.first", laid_unicode_utf8_first)], narrowed := true }
def QueryBackUptoSaid : Prop := queryBackUptoRow.holds Tryd.pinned (OpenSpec.upto queryBackSpec)

/-- 'speculumlaw31.AuditReplies', WHERE WHAT IT READS IS OF BULK AT MOST 1048576: true; the input reads as it did. -/
def auditRepliesUptoRow : OpenClaim := { program := "ytoockgijliacdaadoor", sum := "b1371b0016beece362f458e8633f64c11d5b918e31e08d7c25fa3ab1542b213e", func := "speculum/speculumlaw31.AuditReplies", spec := "auditReplies", inPlace := ["internal/bytealg.IndexByte", "internal/bytealg.IndexByteString", "internal/bytealg.IndexString", "internal/bytealg.CountString"], unfollowed := true, recurses := true, named := ["internal/bytealg.MaxLen", "speculum/octet.digits", "unicode/utf8.first", "unicode/utf8.acceptRanges", "speculum/fsm.table"], apart := false, laid := [("speculum/octet.digits", laid_speculum_octet_digits), ("unicode/utf8.acceptRanges", laid_unicode_utf8_acceptRanges), ("speculum/fsm.table", laid_speculum_fsm_table), ("unicode/utf8.first", laid_unicode_utf8_first)], narrowed := true }
def AuditRepliesUptoSaid : Prop := auditRepliesUptoRow.holds Tryd.pinned (OpenSpec.upto auditRepliesSpec)

/-- 'speculumlaw31.AuditJoins', WHERE WHAT IT READS IS OF BULK AT MOST 1048576: true; the input reads as it did. -/
def auditJoinsUptoRow : OpenClaim := { program := "ytoockgijliacdaadoor", sum := "b1371b0016beece362f458e8633f64c11d5b918e31e08d7c25fa3ab1542b213e", func := "speculum/speculumlaw31.AuditJoins", spec := "auditJoins", inPlace := ["internal/bytealg.IndexByte", "internal/bytealg.IndexByteString", "internal/bytealg.IndexString", "internal/bytealg.CountString"], unfollowed := true, recurses := true, named := ["internal/bytealg.MaxLen", "speculum/octet.digits", "unicode/utf8.first", "unicode/utf8.acceptRanges", "speculum/fsm.table"], apart := false, laid := [("speculum/octet.digits", laid_speculum_octet_digits), ("unicode/utf8.acceptRanges", laid_unicode_utf8_acceptRanges), ("speculum/fsm.table", laid_speculum_fsm_table), ("unicode/utf8.first", laid_unicode_utf8_first)], narrowed := true }
def AuditJoinsUptoSaid : Prop := auditJoinsUptoRow.holds Tryd.pinned (OpenSpec.upto auditJoinsSpec)

/-- 'speculumlaw31.AuditSpans', WHERE WHAT IT READS IS OF BULK AT MOST 1048576: true; the input reads as it did. -/
def auditSpansUptoRow : OpenClaim := { program := "ytoockgijliacdaadoor", sum := "b1371b0016beece362f458e8633f64c11d5b918e31e08d7c25fa3ab1542b213e", func := "speculum/speculumlaw31.AuditSpans", spec := "auditSpans", inPlace := ["internal/bytealg.IndexByte", "internal/bytealg.IndexByteString", "internal/bytealg.IndexString", "internal/bytealg.CountString"], unfollowed := true, recurses := true, named := ["internal/bytealg.MaxLen", "speculum/octet.digits", "unicode/utf8.first", "unicode/utf8.acceptRanges", "speculum/fsm.table"], apart := false, laid := [("speculum/octet.digits", laid_speculum_octet_digits), ("unicode/utf8.acceptRanges", laid_unicode_utf8_acceptRanges), ("speculum/fsm.table", laid_speculum_fsm_table), ("unicode/utf8.first", laid_unicode_utf8_first)], narrowed := true }
def AuditSpansUptoSaid : Prop := auditSpansUptoRow.holds Tryd.pinned (OpenSpec.upto auditSpansSpec)

end Rows
end Go.Proofs.YtoockgijliacdaaDoor
