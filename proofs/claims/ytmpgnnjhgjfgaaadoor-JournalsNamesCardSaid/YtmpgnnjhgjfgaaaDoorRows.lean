/-
  NARROWER THAN 'FOR EVERY INPUT', by the rows' own cells (each row's printed sentence says how): JournalsBack: laid · JournalsSize: laid · JournalsCut: laid · JournalsTurned: laid · JournalsSure: laid · FilesTwice: laid · JournalsNames: laid.
  DERIVED. THE GIVEN ROWS OF THIS SEAT. 7 by the template 'for every input the law returns true; each argument reads behind the call as it read before'; 0 by the template 'total and deterministic' (their statements: YtmpgnnjhgjfgaaaDoorTotals.lean).
  GIVEN WITH THE SEED: the statements are not yours to turn. If you find one false, say at which input.
  Laid BY PROGRAM, IN A SANDBOX (cutbox-rows.mjs): the forced cells as the released guide's own fill.sh prints them over the translation 3d2bbde528f73cc1… (all of the seat's roots in one cut). By AI agents, Wed Nov 11 2026. No macro, syntax, notation, axiom, sorry.
-/
import Derived.Test.YtmpgnnjhgjfgaaaDoorChecked
import GoSem.PinnedTables
import GoSem.Claim
import GoSem.ClaimJoined
import GoSem.ClaimMapViews
import Derived.JoinedTies
import Derived.KernelRfl
namespace Go.Proofs.YtmpgnnjhgjfgaaaDoor
/- THE CELL 'sum', in the pinned program and in every row, IS THE sha256 OF THE DUMP (.gsa) THAT YtmpgnnjhgjfgaaaDoorProg.lean LOADS. Nothing in Lean hashes anything: it is a label: what it is worth is what the hold of that sum in a sandbox is worth. -/
noncomputable def Tryd.pinned : Pinned := { name := "ytmpgnnjhgjfgaaadoor", sum := "3d2bbde528f73cc153f3b44afd8641e3581b2704ea680775cd2b23551b01f9c7", checked := Tryd.checked }
namespace Rows
def none {H : Type} : Left H := { results := [], args := [] }

/- WHAT THE LISTED PACKAGE-LEVEL VARIABLES READ AS WHEN THE CALL BEGINS. Each datum BY PROGRAM (the guide's laid-datum.mjs) off the statement by which the dump's own 'gosem.cut.vars' lays the variable. In a bare row this is a premise. The card (YtmpgnnjhgjfgaaaDoorCards.lean) ties it to the program's text. -/
def laid_unicode_utf8_acceptRanges {H : Type} : DataW H := .agg [.agg [.lit (.int .u8 128), .lit (.int .u8 191)], .agg [.lit (.int .u8 160), .lit (.int .u8 191)], .agg [.lit (.int .u8 128), .lit (.int .u8 159)], .agg [.lit (.int .u8 144), .lit (.int .u8 191)], .agg [.lit (.int .u8 128), .lit (.int .u8 143)], .agg [.lit (.int .u8 0), .lit (.int .u8 0)], .agg [.lit (.int .u8 0), .lit (.int .u8 0)], .agg [.lit (.int .u8 0), .lit (.int .u8 0)], .agg [.lit (.int .u8 0), .lit (.int .u8 0)], .agg [.lit (.int .u8 0), .lit (.int .u8 0)], .agg [.lit (.int .u8 0), .lit (.int .u8 0)], .agg [.lit (.int .u8 0), .lit (.int .u8 0)], .agg [.lit (.int .u8 0), .lit (.int .u8 0)], .agg [.lit (.int .u8 0), .lit (.int .u8 0)], .agg [.lit (.int .u8 0), .lit (.int .u8 0)], .agg [.lit (.int .u8 0), .lit (.int .u8 0)]]
/-- One of Go's own tables, pinned by name: the form's constant. -/
def laid_unicode_utf8_first : DataW Unit := Go.Pinned.utf8First

/-- 'bucketlinelaw06.JournalsBack': WHATEVER THE INPUT: true; the input reads as it did. -/
def journalsBackSpec : ChangeSpec := { name := "journalsBack", fn := fun _ => fun
  | [d1, d2] => { results := [.lit (.bool true)], args := [d1, d2] }
  | _ => none }
def journalsBackRow : OpenClaim := { program := "ytmpgnnjhgjfgaaadoor", sum := "3d2bbde528f73cc153f3b44afd8641e3581b2704ea680775cd2b23551b01f9c7", func := "bucketline/bucketlinelaw06.JournalsBack", spec := "journalsBack", inPlace := ["internal/bytealg.IndexByteString", "internal/bytealg.IndexString"], unfollowed := true, recurses := true, named := ["unicode/utf8.first", "unicode/utf8.acceptRanges", "internal/bytealg.MaxLen"], apart := false, laid := [("unicode/utf8.acceptRanges", laid_unicode_utf8_acceptRanges), ("unicode/utf8.first", laid_unicode_utf8_first)] }
def JournalsBackSaid : Prop := journalsBackRow.holds Tryd.pinned (OpenSpec.ofChange journalsBackSpec)

/-- ITS FALSE NEIGHBOUR: 'it returns false'. Refute it at one input. -/
def journalsBackWrong : ChangeSpec := { name := "journalsBack", fn := fun _ => fun
  | [d1, d2] => { results := [.lit (.bool false)], args := [d1, d2] }
  | _ => none }
def JournalsBackWrongFalsely : Prop := journalsBackRow.holds Tryd.pinned (OpenSpec.ofChange journalsBackWrong)

/-- 'bucketlinelaw06.JournalsSize': WHATEVER THE INPUT: true; the input reads as it did. -/
def journalsSizeSpec : ChangeSpec := { name := "journalsSize", fn := fun _ => fun
  | [d] => { results := [.lit (.bool true)], args := [d] }
  | _ => none }
def journalsSizeRow : OpenClaim := { program := "ytmpgnnjhgjfgaaadoor", sum := "3d2bbde528f73cc153f3b44afd8641e3581b2704ea680775cd2b23551b01f9c7", func := "bucketline/bucketlinelaw06.JournalsSize", spec := "journalsSize", inPlace := ["internal/bytealg.IndexByteString", "internal/bytealg.IndexString"], unfollowed := true, recurses := true, named := ["unicode/utf8.first", "unicode/utf8.acceptRanges", "internal/bytealg.MaxLen"], apart := false, laid := [("unicode/utf8.acceptRanges", laid_unicode_utf8_acceptRanges), ("unicode/utf8.first", laid_unicode_utf8_first)] }
def JournalsSizeSaid : Prop := journalsSizeRow.holds Tryd.pinned (OpenSpec.ofChange journalsSizeSpec)

/-- ITS FALSE NEIGHBOUR: 'it returns false'. Refute it at one input. -/
def journalsSizeWrong : ChangeSpec := { name := "journalsSize", fn := fun _ => fun
  | [d] => { results := [.lit (.bool false)], args := [d] }
  | _ => none }
def JournalsSizeWrongFalsely : Prop := journalsSizeRow.holds Tryd.pinned (OpenSpec.ofChange journalsSizeWrong)

/-- 'bucketlinelaw06.JournalsCut': WHATEVER THE INPUT: true; the input reads as it did. -/
def journalsCutSpec : ChangeSpec := { name := "journalsCut", fn := fun _ => fun
  | [d1, d2] => { results := [.lit (.bool true)], args := [d1, d2] }
  | _ => none }
def journalsCutRow : OpenClaim := { program := "ytmpgnnjhgjfgaaadoor", sum := "3d2bbde528f73cc153f3b44afd8641e3581b2704ea680775cd2b23551b01f9c7", func := "bucketline/bucketlinelaw06.JournalsCut", spec := "journalsCut", inPlace := ["internal/bytealg.IndexByteString", "internal/bytealg.IndexString"], unfollowed := true, recurses := true, named := ["unicode/utf8.first", "unicode/utf8.acceptRanges", "internal/bytealg.MaxLen"], apart := false, laid := [("unicode/utf8.acceptRanges", laid_unicode_utf8_acceptRanges), ("unicode/utf8.first", laid_unicode_utf8_first)] }
def JournalsCutSaid : Prop := journalsCutRow.holds Tryd.pinned (OpenSpec.ofChange journalsCutSpec)

/-- ITS FALSE NEIGHBOUR: 'it returns false'. Refute it at one input. -/
def journalsCutWrong : ChangeSpec := { name := "journalsCut", fn := fun _ => fun
  | [d1, d2] => { results := [.lit (.bool false)], args := [d1, d2] }
  | _ => none }
def JournalsCutWrongFalsely : Prop := journalsCutRow.holds Tryd.pinned (OpenSpec.ofChange journalsCutWrong)

/-- 'bucketlinelaw06.JournalsTurned': WHATEVER THE INPUT: true; the input reads as it did. -/
def journalsTurnedSpec : ChangeSpec := { name := "journalsTurned", fn := fun _ => fun
  | [d1, d2, d3] => { results := [.lit (.bool true)], args := [d1, d2, d3] }
  | _ => none }
def journalsTurnedRow : OpenClaim := { program := "ytmpgnnjhgjfgaaadoor", sum := "3d2bbde528f73cc153f3b44afd8641e3581b2704ea680775cd2b23551b01f9c7", func := "bucketline/bucketlinelaw06.JournalsTurned", spec := "journalsTurned", inPlace := ["internal/bytealg.IndexByteString", "internal/bytealg.IndexString"], unfollowed := true, recurses := true, named := ["unicode/utf8.first", "unicode/utf8.acceptRanges", "internal/bytealg.MaxLen"], apart := false, laid := [("unicode/utf8.acceptRanges", laid_unicode_utf8_acceptRanges), ("unicode/utf8.first", laid_unicode_utf8_first)] }
def JournalsTurnedSaid : Prop := journalsTurnedRow.holds Tryd.pinned (OpenSpec.ofChange journalsTurnedSpec)

/-- ITS FALSE NEIGHBOUR: 'it returns false'. Refute it at one input. -/
def journalsTurnedWrong : ChangeSpec := { name := "journalsTurned", fn := fun _ => fun
  | [d1, d2, d3] => { results := [.lit (.bool false)], args := [d1, d2, d3] }
  | _ => none }
def JournalsTurnedWrongFalsely : Prop := journalsTurnedRow.holds Tryd.pinned (OpenSpec.ofChange journalsTurnedWrong)

/-- 'bucketlinelaw06.JournalsSure': WHATEVER THE INPUT: true; the input reads as it did. -/
def journalsSureSpec : ChangeSpec := { name := "journalsSure", fn := fun _ => fun
  | [d1, d2, d3] => { results := [.lit (.bool true)], args := [d1, d2, d3] }
  | _ => none }
def journalsSureRow : OpenClaim := { program := "ytmpgnnjhgjfgaaadoor", sum := "3d2bbde528f73cc153f3b44afd8641e3581b2704ea680775cd2b23551b01f9c7", func := "bucketline/bucketlinelaw06.JournalsSure", spec := "journalsSure", inPlace := ["internal/bytealg.IndexByteString", "internal/bytealg.IndexString", "maps.clone"], unfollowed := true, recurses := true, named := ["unicode/utf8.first", "unicode/utf8.acceptRanges", "internal/bytealg.MaxLen"], apart := false, laid := [("unicode/utf8.acceptRanges", laid_unicode_utf8_acceptRanges), ("unicode/utf8.first", laid_unicode_utf8_first)] }
def JournalsSureSaid : Prop := journalsSureRow.holds Tryd.pinned (OpenSpec.ofChange journalsSureSpec)

/-- ITS FALSE NEIGHBOUR: 'it returns false'. Refute it at one input. -/
def journalsSureWrong : ChangeSpec := { name := "journalsSure", fn := fun _ => fun
  | [d1, d2, d3] => { results := [.lit (.bool false)], args := [d1, d2, d3] }
  | _ => none }
def JournalsSureWrongFalsely : Prop := journalsSureRow.holds Tryd.pinned (OpenSpec.ofChange journalsSureWrong)

/-- 'bucketlinelaw05.FilesTwice': WHATEVER THE INPUT: true; the input reads as it did. -/
def filesTwiceSpec : ChangeSpec := { name := "filesTwice", fn := fun _ => fun
  | [d1, d2, d3] => { results := [.lit (.bool true)], args := [d1, d2, d3] }
  | _ => none }
def filesTwiceRow : OpenClaim := { program := "ytmpgnnjhgjfgaaadoor", sum := "3d2bbde528f73cc153f3b44afd8641e3581b2704ea680775cd2b23551b01f9c7", func := "bucketline/bucketlinelaw05.FilesTwice", spec := "filesTwice", inPlace := ["internal/bytealg.IndexByteString", "internal/bytealg.IndexString", "maps.clone"], unfollowed := true, recurses := true, named := ["unicode/utf8.first", "unicode/utf8.acceptRanges", "internal/bytealg.MaxLen"], apart := false, laid := [("unicode/utf8.acceptRanges", laid_unicode_utf8_acceptRanges), ("unicode/utf8.first", laid_unicode_utf8_first)] }
def FilesTwiceSaid : Prop := filesTwiceRow.holds Tryd.pinned (OpenSpec.ofChange filesTwiceSpec)

/-- ITS FALSE NEIGHBOUR: 'it returns false'. Refute it at one input. -/
def filesTwiceWrong : ChangeSpec := { name := "filesTwice", fn := fun _ => fun
  | [d1, d2, d3] => { results := [.lit (.bool false)], args := [d1, d2, d3] }
  | _ => none }
def FilesTwiceWrongFalsely : Prop := filesTwiceRow.holds Tryd.pinned (OpenSpec.ofChange filesTwiceWrong)

/-- 'bucketlinelaw06.JournalsNames': WHATEVER THE INPUT: true; the input reads as it did. -/
def journalsNamesSpec : ChangeSpec := { name := "journalsNames", fn := fun _ => fun
  | [d1, d2] => { results := [.lit (.bool true)], args := [d1, d2] }
  | _ => none }
def journalsNamesRow : OpenClaim := { program := "ytmpgnnjhgjfgaaadoor", sum := "3d2bbde528f73cc153f3b44afd8641e3581b2704ea680775cd2b23551b01f9c7", func := "bucketline/bucketlinelaw06.JournalsNames", spec := "journalsNames", inPlace := ["internal/bytealg.IndexByteString", "internal/bytealg.IndexString"], unfollowed := true, recurses := true, named := ["unicode/utf8.first", "unicode/utf8.acceptRanges", "internal/bytealg.MaxLen"], apart := false, laid := [("unicode/utf8.acceptRanges", laid_unicode_utf8_acceptRanges), ("unicode/utf8.first", laid_unicode_utf8_first)] }
def JournalsNamesSaid : Prop := journalsNamesRow.holds Tryd.pinned (OpenSpec.ofChange journalsNamesSpec)

/-- ITS FALSE NEIGHBOUR: 'it returns false'. Refute it at one input. -/
def journalsNamesWrong : ChangeSpec := { name := "journalsNames", fn := fun _ => fun
  | [d1, d2] => { results := [.lit (.bool false)], args := [d1, d2] }
  | _ => none }
def JournalsNamesWrongFalsely : Prop := journalsNamesRow.holds Tryd.pinned (OpenSpec.ofChange journalsNamesWrong)

/- THE SECOND FORM. 'bulk': how many values and letters a reading holds, each counted each time it is reached (what is shared counts as often as it is met; a slice's spare places count too). A statement '..UptoSaid' is the law's where the arguments, and the package variables that the reading takes, are together of bulk at most 1048576: NARROWER than '..Said'. Prove '..Said' where nothing that the law and all that it calls make is longer than what came in: it says more and counts as full. Else prove '..UptoSaid'. A law counts once. -/
mutual
def uptoBulk {H : Type} : DataW H → Nat
  | .lit (.string bytes) => bytes.length + 1
  | .lit _ => 1
  | .nil => 1
  | .ptr d => uptoBulk d + 1
  | .slice elems spare => uptoBulkAll elems + uptoBulkAll spare + 1
  | .agg parts => uptoBulkAll parts + 1
  | .iface _ d => uptoBulk d + 1
  | .map entries => uptoBulkEntries entries + 1
  | .held _ => 1
def uptoBulkAll {H : Type} : List (DataW H) → Nat
  | [] => 0
  | d :: r => uptoBulk d + uptoBulkAll r
def uptoBulkEntries {H : Type} : List (Lit × DataW H) → Nat
  | [] => 0
  | x :: r => uptoBulkEntry x + uptoBulkEntries r
def uptoBulkEntry {H : Type} : Lit × DataW H → Nat
  | (.string bytes, d) => bytes.length + uptoBulk d + 1
  | (_, d) => uptoBulk d + 1
 end
def uptoSmall : (H : Type) → List (DataW H) → Bool := fun _ ds => decide (uptoBulkAll ds ≤ 1048576)
def OpenSpec.upto (s : _root_.Go.ChangeSpec) : _root_.Go.OpenSpec := { _root_.Go.OpenSpec.ofChange s with cond := some uptoSmall }

/-- 'bucketlinelaw06.JournalsBack', WHERE WHAT IT READS IS OF BULK AT MOST 1048576: true; the input reads as it did. -/
def journalsBackUptoRow : OpenClaim := { program := "ytmpgnnjhgjfgaaadoor", sum := "3d2bbde528f73cc153f3b44afd8641e3581b2704ea680775cd2b23551b01f9c7", func := "bucketline/bucketlinelaw06.JournalsBack", spec := "journalsBack", inPlace := ["internal/bytealg.IndexByteString", "internal/bytealg.IndexString"], unfollowed := true, recurses := true, named := ["unicode/utf8.first", "unicode/utf8.acceptRanges", "internal/bytealg.MaxLen"], apart := false, laid := [("unicode/utf8.acceptRanges", laid_unicode_utf8_acceptRanges), ("unicode/utf8.first", laid_unicode_utf8_first)], narrowed := true }
def JournalsBackUptoSaid : Prop := journalsBackUptoRow.holds Tryd.pinned (OpenSpec.upto journalsBackSpec)

/-- 'bucketlinelaw06.JournalsSize', WHERE WHAT IT READS IS OF BULK AT MOST 1048576: true; the input reads as it did. -/
def journalsSizeUptoRow : OpenClaim := { program := "ytmpgnnjhgjfgaaadoor", sum := "3d2bbde528f73cc153f3b44afd8641e3581b2704ea680775cd2b23551b01f9c7", func := "bucketline/bucketlinelaw06.JournalsSize", spec := "journalsSize", inPlace := ["internal/bytealg.IndexByteString", "internal/bytealg.IndexString"], unfollowed := true, recurses := true, named := ["unicode/utf8.first", "unicode/utf8.acceptRanges", "internal/bytealg.MaxLen"], apart := false, laid := [("unicode/utf8.acceptRanges", laid_unicode_utf8_acceptRanges), ("unicode/utf8.first", laid_unicode_utf8_first)], narrowed := true }
def JournalsSizeUptoSaid : Prop := journalsSizeUptoRow.holds Tryd.pinned (OpenSpec.upto journalsSizeSpec)

/-- 'bucketlinelaw06.JournalsCut', WHERE WHAT IT READS IS OF BULK AT MOST 1048576: true; the input reads as it did. -/
def journalsCutUptoRow : OpenClaim := { program := "ytmpgnnjhgjfgaaadoor", sum := "3d2bbde528f73cc153f3b44afd8641e3581b2704ea680775cd2b23551b01f9c7", func := "bucketline/bucketlinelaw06.JournalsCut", spec := "journalsCut", inPlace := ["internal/bytealg.IndexByteString", "internal/bytealg.IndexString"], unfollowed := true, recurses := true, named := ["unicode/utf8.first", "unicode/utf8.acceptRanges", "internal/bytealg.MaxLen"], apart := false, laid := [("unicode/utf8.acceptRanges", laid_unicode_utf8_acceptRanges), ("unicode/utf8.first", laid_unicode_utf8_first)], narrowed := true }
def JournalsCutUptoSaid : Prop := journalsCutUptoRow.holds Tryd.pinned (OpenSpec.upto journalsCutSpec)

/-- 'bucketlinelaw06.JournalsTurned', WHERE WHAT IT READS IS OF BULK AT MOST 1048576: true; the input reads as it did. -/
def journalsTurnedUptoRow : OpenClaim := { program := "ytmpgnnjhgjfgaaadoor", sum := "3d2bbde528f73cc153f3b44afd8641e3581b2704ea680775cd2b23551b01f9c7", func := "bucketline/bucketlinelaw06.JournalsTurned", spec := "journalsTurned", inPlace := ["internal/bytealg.IndexByteString", "internal/bytealg.IndexString"], unfollowed := true, recurses := true, named := ["unicode/utf8.first", "unicode/utf8.acceptRanges", "internal/bytealg.MaxLen"], apart := false, laid := [("unicode/utf8.acceptRanges", laid_unicode_utf8_acceptRanges), ("unicode/utf8.first", laid_unicode_utf8_first)], narrowed := true }
def JournalsTurnedUptoSaid : Prop := journalsTurnedUptoRow.holds Tryd.pinned (OpenSpec.upto journalsTurnedSpec)

/-- 'bucketlinelaw06.JournalsSure', WHERE WHAT IT READS IS OF BULK AT MOST 1048576: true; the input reads as it did. -/
def journalsSureUptoRow : OpenClaim := { program := "ytmpgnnjhgjfgaaadoor", sum := "3d2bbde528f73cc153f3b44afd8641e3581b2704ea680775cd2b23551b01f9c7", func := "bucketline/bucketlinelaw06.JournalsSure", spec := "journalsSure", inPlace := ["internal/bytealg.IndexByteString", "internal/bytealg.IndexString", "maps.clone"], unfollowed := true, recurses := true, named := ["unicode/utf8.first", "unicode/utf8.acceptRanges", "internal/bytealg.MaxLen"], apart := false, laid := [("unicode/utf8.acceptRanges", laid_unicode_utf8_acceptRanges), ("unicode/utf8.first", laid_unicode_utf8_first)], narrowed := true }
def JournalsSureUptoSaid : Prop := journalsSureUptoRow.holds Tryd.pinned (OpenSpec.upto journalsSureSpec)

/-- 'bucketlinelaw05.FilesTwice', WHERE WHAT IT READS IS OF BULK AT MOST 1048576: true; the input reads as it did. -/
def filesTwiceUptoRow : OpenClaim := { program := "ytmpgnnjhgjfgaaadoor", sum := "3d2bbde528f73cc153f3b44afd8641e3581b2704ea680775cd2b23551b01f9c7", func := "bucketline/bucketlinelaw05.FilesTwice", spec := "filesTwice", inPlace := ["internal/bytealg.IndexByteString", "internal/bytealg.IndexString", "maps.clone"], unfollowed := true, recurses := true, named := ["unicode/utf8.first", "unicode/utf8.acceptRanges", "internal/bytealg.MaxLen"], apart := false, laid := [("unicode/utf8.acceptRanges", laid_unicode_utf8_acceptRanges), ("unicode/utf8.first", laid_unicode_utf8_first)], narrowed := true }
def FilesTwiceUptoSaid : Prop := filesTwiceUptoRow.holds Tryd.pinned (OpenSpec.upto filesTwiceSpec)

/-- 'bucketlinelaw06.JournalsNames', WHERE WHAT IT READS IS OF BULK AT MOST 1048576: true; the input reads as it did. -/
def journalsNamesUptoRow : OpenClaim := { program := "ytmpgnnjhgjfgaaadoor", sum := "3d2bbde528f73cc153f3b44afd8641e3581b2704ea680775cd2b23551b01f9c7", func := "bucketline/bucketlinelaw06.JournalsNames", spec := "journalsNames", inPlace := ["internal/bytealg.IndexByteString", "internal/bytealg.IndexString"], unfollowed := true, recurses := true, named := ["unicode/utf8.first", "unicode/utf8.acceptRanges", "internal/bytealg.MaxLen"], apart := false, laid := [("unicode/utf8.acceptRanges", laid_unicode_utf8_acceptRanges), ("unicode/utf8.first", laid_unicode_utf8_first)], narrowed := true }
def JournalsNamesUptoSaid : Prop := journalsNamesUptoRow.holds Tryd.pinned (OpenSpec.upto journalsNamesSpec)

end Rows
end Go.Proofs.YtmpgnnjhgjfgaaaDoor
