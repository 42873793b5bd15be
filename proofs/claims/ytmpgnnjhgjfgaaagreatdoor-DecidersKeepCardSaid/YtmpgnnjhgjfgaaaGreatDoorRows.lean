/-
  NARROWER THAN 'FOR EVERY INPUT', by the rows' own cells (each row's printed sentence says how): DecidersHolder: laid · DecidersKeep: laid · DecidersRise: laid · DecidersSure: laid.
  DERIVED. THE GIVEN ROWS OF THIS SEAT. 4 by the template 'for every input the law returns true; each argument reads behind the call as it read before'; 0 by the template 'total and deterministic' (their statements: YtmpgnnjhgjfgaaaGreatDoorTotals.lean).
  GIVEN WITH THE SEED: the statements are not yours to turn. If you find one false, say at which input.
  Laid BY PROGRAM, IN A SANDBOX (cutbox-rows.mjs): the forced cells as the released guide's own fill.sh prints them over the translation 3307817e2af589f3… (all of the seat's roots in one cut). By AI agents, Wed Nov 11 2026. No macro, syntax, notation, axiom, sorry.
-/
import Derived.Test.YtmpgnnjhgjfgaaaGreatDoorChecked
import GoSem.PinnedTables
import GoSem.Claim
import GoSem.ClaimJoined
import GoSem.ClaimMapViews
import Derived.JoinedTies
import Derived.KernelRfl
namespace Go.Proofs.YtmpgnnjhgjfgaaaGreatDoor
/- THE CELL 'sum', in the pinned program and in every row, IS THE sha256 OF THE DUMP (.gsa) THAT YtmpgnnjhgjfgaaaGreatDoorProg.lean LOADS. Nothing in Lean hashes anything: it is a label: what it is worth is what the hold of that sum in a sandbox is worth. -/
noncomputable def Tryz.pinned : Pinned := { name := "ytmpgnnjhgjfgaaagreatdoor", sum := "3307817e2af589f37062e0830e02c25941f4cdf8373ff4f9c027236a3374518e", checked := Tryz.checked }
namespace Rows
def none {H : Type} : Left H := { results := [], args := [] }

/- WHAT THE LISTED PACKAGE-LEVEL VARIABLES READ AS WHEN THE CALL BEGINS. Each datum BY PROGRAM (the guide's laid-datum.mjs) off the statement by which the dump's own 'gosem.cut.vars' lays the variable. In a bare row this is a premise. The card (YtmpgnnjhgjfgaaaGreatDoorCards.lean) ties it to the program's text. -/
def laid_unicode_utf8_acceptRanges {H : Type} : DataW H := .agg [.agg [.lit (.int .u8 128), .lit (.int .u8 191)], .agg [.lit (.int .u8 160), .lit (.int .u8 191)], .agg [.lit (.int .u8 128), .lit (.int .u8 159)], .agg [.lit (.int .u8 144), .lit (.int .u8 191)], .agg [.lit (.int .u8 128), .lit (.int .u8 143)], .agg [.lit (.int .u8 0), .lit (.int .u8 0)], .agg [.lit (.int .u8 0), .lit (.int .u8 0)], .agg [.lit (.int .u8 0), .lit (.int .u8 0)], .agg [.lit (.int .u8 0), .lit (.int .u8 0)], .agg [.lit (.int .u8 0), .lit (.int .u8 0)], .agg [.lit (.int .u8 0), .lit (.int .u8 0)], .agg [.lit (.int .u8 0), .lit (.int .u8 0)], .agg [.lit (.int .u8 0), .lit (.int .u8 0)], .agg [.lit (.int .u8 0), .lit (.int .u8 0)], .agg [.lit (.int .u8 0), .lit (.int .u8 0)], .agg [.lit (.int .u8 0), .lit (.int .u8 0)]]
/-- One of Go's own tables, pinned by name: the form's constant. -/
def laid_unicode_utf8_first : DataW Unit := Go.Pinned.utf8First

/-- 'bucketlinelaw19.DecidersHolder': WHATEVER THE INPUT: true; the input reads as it did. -/
def decidersHolderSpec : ChangeSpec := { name := "decidersHolder", fn := fun _ => fun
  | [d1, d2, d3] => { results := [.lit (.bool true)], args := [d1, d2, d3] }
  | _ => none }
def decidersHolderRow : OpenClaim := { program := "ytmpgnnjhgjfgaaagreatdoor", sum := "3307817e2af589f37062e0830e02c25941f4cdf8373ff4f9c027236a3374518e", func := "bucketline/bucketlinelaw19.DecidersHolder", spec := "decidersHolder", inPlace := ["internal/bytealg.IndexByteString", "internal/bytealg.IndexString", "maps.clone"], unfollowed := true, recurses := true, named := ["unicode/utf8.first", "unicode/utf8.acceptRanges", "internal/bytealg.MaxLen"], apart := false, laid := [("unicode/utf8.acceptRanges", laid_unicode_utf8_acceptRanges), ("unicode/utf8.first", laid_unicode_utf8_first)] }
def DecidersHolderSaid : Prop := decidersHolderRow.holds Tryz.pinned (OpenSpec.ofChange decidersHolderSpec)

/-- ITS FALSE NEIGHBOUR: 'it returns false'. Refute it at one input. -/
def decidersHolderWrong : ChangeSpec := { name := "decidersHolder", fn := fun _ => fun
  | [d1, d2, d3] => { results := [.lit (.bool false)], args := [d1, d2, d3] }
  | _ => none }
def DecidersHolderWrongFalsely : Prop := decidersHolderRow.holds Tryz.pinned (OpenSpec.ofChange decidersHolderWrong)

/-- 'bucketlinelaw19.DecidersKeep': WHATEVER THE INPUT: true; the input reads as it did. -/
def decidersKeepSpec : ChangeSpec := { name := "decidersKeep", fn := fun _ => fun
  | [d1, d2, d3] => { results := [.lit (.bool true)], args := [d1, d2, d3] }
  | _ => none }
def decidersKeepRow : OpenClaim := { program := "ytmpgnnjhgjfgaaagreatdoor", sum := "3307817e2af589f37062e0830e02c25941f4cdf8373ff4f9c027236a3374518e", func := "bucketline/bucketlinelaw19.DecidersKeep", spec := "decidersKeep", inPlace := ["internal/bytealg.IndexByteString", "internal/bytealg.IndexString", "maps.clone"], unfollowed := true, recurses := true, named := ["unicode/utf8.first", "unicode/utf8.acceptRanges", "internal/bytealg.MaxLen"], apart := false, laid := [("unicode/utf8.acceptRanges", laid_unicode_utf8_acceptRanges), ("unicode/utf8.first", laid_unicode_utf8_first)] }
def DecidersKeepSaid : Prop := decidersKeepRow.holds Tryz.pinned (OpenSpec.ofChange decidersKeepSpec)

/-- ITS FALSE NEIGHBOUR: 'it returns false'. Refute it at one input. -/
def decidersKeepWrong : ChangeSpec := { name := "decidersKeep", fn := fun _ => fun
  | [d1, d2, d3] => { results := [.lit (.bool false)], args := [d1, d2, d3] }
  | _ => none }
def DecidersKeepWrongFalsely : Prop := decidersKeepRow.holds Tryz.pinned (OpenSpec.ofChange decidersKeepWrong)

/-- 'bucketlinelaw19.DecidersRise': WHATEVER THE INPUT: true; the input reads as it did. -/
def decidersRiseSpec : ChangeSpec := { name := "decidersRise", fn := fun _ => fun
  | [d] => { results := [.lit (.bool true)], args := [d] }
  | _ => none }
def decidersRiseRow : OpenClaim := { program := "ytmpgnnjhgjfgaaagreatdoor", sum := "3307817e2af589f37062e0830e02c25941f4cdf8373ff4f9c027236a3374518e", func := "bucketline/bucketlinelaw19.DecidersRise", spec := "decidersRise", inPlace := ["internal/bytealg.IndexByteString", "internal/bytealg.IndexString", "maps.clone"], unfollowed := true, recurses := true, named := ["unicode/utf8.first", "unicode/utf8.acceptRanges", "internal/bytealg.MaxLen"], apart := false, laid := [("unicode/utf8.acceptRanges", laid_unicode_utf8_acceptRanges), ("unicode/utf8.first", laid_unicode_utf8_first)] }
def DecidersRiseSaid : Prop := decidersRiseRow.holds Tryz.pinned (OpenSpec.ofChange decidersRiseSpec)

/-- ITS FALSE NEIGHBOUR: 'it returns false'. Refute it at one input. -/
def decidersRiseWrong : ChangeSpec := { name := "decidersRise", fn := fun _ => fun
  | [d] => { results := [.lit (.bool false)], args := [d] }
  | _ => none }
def DecidersRiseWrongFalsely : Prop := decidersRiseRow.holds Tryz.pinned (OpenSpec.ofChange decidersRiseWrong)

/-- 'bucketlinelaw19.DecidersSure': WHATEVER THE INPUT: true; the input reads as it did. -/
def decidersSureSpec : ChangeSpec := { name := "decidersSure", fn := fun _ => fun
  | [d1, d2, d3] => { results := [.lit (.bool true)], args := [d1, d2, d3] }
  | _ => none }
def decidersSureRow : OpenClaim := { program := "ytmpgnnjhgjfgaaagreatdoor", sum := "3307817e2af589f37062e0830e02c25941f4cdf8373ff4f9c027236a3374518e", func := "bucketline/bucketlinelaw19.DecidersSure", spec := "decidersSure", inPlace := ["internal/bytealg.IndexByteString", "internal/bytealg.IndexString", "maps.clone"], unfollowed := true, recurses := true, named := ["unicode/utf8.first", "unicode/utf8.acceptRanges", "internal/bytealg.MaxLen"], apart := false, laid := [("unicode/utf8.acceptRanges", laid_unicode_utf8_acceptRanges), ("unicode/utf8.first", laid_unicode_utf8_first)] }
def DecidersSureSaid : Prop := decidersSureRow.holds Tryz.pinned (OpenSpec.ofChange decidersSureSpec)

/-- ITS FALSE NEIGHBOUR: 'it returns false'. Refute it at one input. -/
def decidersSureWrong : ChangeSpec := { name := "decidersSure", fn := fun _ => fun
  | [d1, d2, d3] => { results := [.lit (.bool false)], args := [d1, d2, d3] }
  | _ => none }
def DecidersSureWrongFalsely : Prop := decidersSureRow.holds Tryz.pinned (OpenSpec.ofChange decidersSureWrong)

/- THE SECOND FORM. 'bulk': how many values and letters a reading holds, each counted each time it is reached (what is shared counts as often as it is met; a slice's spare places count too). A statement '..UptoSaid' is the law's where the arguments, and the package variables that the reading takes, are together of bulk at most 1048576: NARROWER than '..Said'. Prove '..Said' where nothing that the law and all that it calls make is longer than what came in: it says more and counts as full. Else prove '..UptoSaid'. A law counts once. -/
mutual
def uptoBulk {H : Type} : DataW H → Nat
  | .lit (.string bytes) => bytes.length + 1
  | .lit _ => 1
  | .nil => 1
  | .ptr d => uptoBulk d + 1
  | .slice elems spare => uptoBulkAll elems + uptoBulkAll spare + 1
  | .agg parts => uptoBulkAll parts + 1
  | .iface _ d => uptoBulk d + 1
  | .map entries => uptoBulkEntries entries + 1
  | .held _ => 1
def uptoBulkAll {H : Type} : List (DataW H) → Nat
  | [] => 0
  | d :: r => uptoBulk d + uptoBulkAll r
def uptoBulkEntries {H : Type} : List (Lit × DataW H) → Nat
  | [] => 0
  | x :: r => uptoBulkEntry x + uptoBulkEntries r
def uptoBulkEntry {H : Type} : Lit × DataW H → Nat
  | (.string bytes, d) => bytes.length + uptoBulk d + 1
  | (_, d) => uptoBulk d + 1
 end
def uptoSmall : (H : Type) → List (DataW H) → Bool := fun _ ds => decide (uptoBulkAll ds ≤ 1048576)
def OpenSpec.upto (s : _root_.Go.ChangeSpec) : _root_.Go.OpenSpec := { _root_.Go.OpenSpec.ofChange s with cond := some uptoSmall }

/-- 'bucketlinelaw19.DecidersHolder', WHERE WHAT IT READS IS OF BULK AT MOST 1048576: true; the input reads as it did. -/
def decidersHolderUptoRow : OpenClaim := { program := "ytmpgnnjhgjfgaaagreatdoor", sum := "3307817e2af589f37062e0830e02c25941f4cdf8373ff4f9c027236a3374518e", func := "bucketline/bucketlinelaw19.DecidersHolder", spec := "decidersHolder", inPlace := ["internal/bytealg.IndexByteString", "internal/bytealg.IndexString", "maps.clone"], unfollowed := true, recurses := true, named := ["unicode/utf8.first", "unicode/utf8.acceptRanges", "internal/bytealg.MaxLen"], apart := false, laid := [("unicode/utf8.acceptRanges", laid_unicode_utf8_acceptRanges), ("unicode/utf8.first", laid_unicode_utf8_first)], narrowed := true }
def DecidersHolderUptoSaid : Prop := decidersHolderUptoRow.holds Tryz.pinned (OpenSpec.upto decidersHolderSpec)

/-- 'bucketlinelaw19.DecidersKeep', WHERE WHAT IT READS IS OF BULK AT MOST 1048576: true; the input reads as it did. -/
def decidersKeepUptoRow : OpenClaim := { program := "ytmpgnnjhgjfgaaagreatdoor", sum := "3307817e2af589f37062e0830e02c25941f4cdf8373ff4f9c027236a3374518e", func := "bucketline/bucketlinelaw19.DecidersKeep", spec := "decidersKeep", inPlace := ["internal/bytealg.IndexByteString", "internal/bytealg.IndexString", "maps.clone"], unfollowed := true, recurses := true, named := ["unicode/utf8.first", "unicode/utf8.acceptRanges", "internal/bytealg.MaxLen"], apart := false, laid := [("unicode/utf8.acceptRanges", laid_unicode_utf8_acceptRanges), ("unicode/utf8.first", laid_unicode_utf8_first)], narrowed := true }
def DecidersKeepUptoSaid : Prop := decidersKeepUptoRow.holds Tryz.pinned (OpenSpec.upto decidersKeepSpec)

/-- 'bucketlinelaw19.DecidersRise', WHERE WHAT IT READS IS OF BULK AT MOST 1048576: true; the input reads as it did. -/
def decidersRiseUptoRow : OpenClaim := { program := "ytmpgnnjhgjfgaaagreatdoor", sum := "3307817e2af589f37062e0830e02c25941f4cdf8373ff4f9c027236a3374518e", func := "bucketline/bucketlinelaw19.DecidersRise", spec := "decidersRise", inPlace := ["internal/bytealg.IndexByteString", "internal/bytealg.IndexString", "maps.clone"], unfollowed := true, recurses := true, named := ["unicode/utf8.first", "unicode/utf8.acceptRanges", "internal/bytealg.MaxLen"], apart := false, laid := [("unicode/utf8.acceptRanges", laid_unicode_utf8_acceptRanges), ("unicode/utf8.first", laid_unicode_utf8_first)], narrowed := true }
def DecidersRiseUptoSaid : Prop := decidersRiseUptoRow.holds Tryz.pinned (OpenSpec.upto decidersRiseSpec)

/-- 'bucketlinelaw19.DecidersSure', WHERE WHAT IT READS IS OF BULK AT MOST 1048576: true; the input reads as it did. -/
def decidersSureUptoRow : OpenClaim := { program := "ytmpgnnjhgjfgaaagreatdoor", sum := "3307817e2af589f37062e0830e02c25941f4cdf8373ff4f9c027236a3374518e", func := "bucketline/bucketlinelaw19.DecidersSure", spec := "decidersSure", inPlace := ["internal/bytealg.IndexByteString", "internal/bytealg.IndexString", "maps.clone"], unfollowed := true, recurses := true, named := ["unicode/utf8.first", "unicode/utf8.acceptRanges", "internal/bytealg.MaxLen"], apart := false, laid := [("unicode/utf8.acceptRanges", laid_unicode_utf8_acceptRanges), ("unicode/utf8.first", laid_unicode_utf8_first)], narrowed := true }
def DecidersSureUptoSaid : Prop := decidersSureUptoRow.holds Tryz.pinned (OpenSpec.upto decidersSureSpec)

end Rows
end Go.Proofs.YtmpgnnjhgjfgaaaGreatDoor
