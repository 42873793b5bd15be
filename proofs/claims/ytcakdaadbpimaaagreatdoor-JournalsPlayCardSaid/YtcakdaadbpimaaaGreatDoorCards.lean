/-
  DERIVED. GIVEN WITH THE SEED: THE CARDS: each row of YtcakdaadbpimaaaGreatDoorRows.lean that lists a variable, with what it lists TIED to the program's text (the seventh form; the later family's looks); each row that meets fmt, with fmt's text TOLD by the authors' own Lean function (tested against real Go, not proved from fmt's source: count such statements apart). THE CARD IS WHAT COUNTS. Prove the row's statement (the work); the ties are given (YtcakdaadbpimaaaGreatDoorTie.lean); close each card by the builder's one call (the guide's Derived/Test/ToyasCard.lean, 'card_holds'). Laid BY PROGRAM, IN A SANDBOX (cutbox-door.mjs). By AI agents, Wed Nov 11 2026. No macro, syntax, notation, axiom, sorry.
-/
import Derived.Test.YtcakdaadbpimaaaGreatDoorRows
import GoSem.ClaimSeven
namespace Go.Proofs.YtcakdaadbpimaaaGreatDoor
namespace Rows

/-- THE TIED CARD OF 'bucketlinelaw05.FilesPlay'. -/
def filesPlayCard : Claim7 := { stood := { row := filesPlayRow, standIns := [], harness := (true, "191bccad3ec487867833a6047fdf7a14ef4b0dd15d8e684929c1a706eae87e12"), looks := true }, kinds := [], alts := [], laidByText := true, laidKinds := [.data, .data, .data, .data, .pinned], laidTests := true, laidLooks := .later }
def FilesPlayCardSaid : Prop := Claim7.holds Tryz.pinned (.plain (OpenSpec.ofChange filesPlaySpec)) filesPlayCard

/-- THE TIED CARD OF 'bucketlinelaw06.JournalsPlay'. -/
def journalsPlayCard : Claim7 := { stood := { row := journalsPlayRow, standIns := [], harness := (true, "191bccad3ec487867833a6047fdf7a14ef4b0dd15d8e684929c1a706eae87e12"), looks := true }, kinds := [], alts := [], laidByText := true, laidKinds := [.data, .data, .data, .data, .pinned], laidTests := true, laidLooks := .later }
def JournalsPlayCardSaid : Prop := Claim7.holds Tryz.pinned (.plain (OpenSpec.ofChange journalsPlaySpec)) journalsPlayCard

/-- THE TIED CARD OF 'bucketlinelaw14.ManifestsFull'. -/
def manifestsFullCard : Claim7 := { stood := { row := manifestsFullRow, standIns := [], harness := (true, "191bccad3ec487867833a6047fdf7a14ef4b0dd15d8e684929c1a706eae87e12"), looks := true }, kinds := [], alts := [], laidByText := true, laidKinds := [.data, .data, .data, .data, .sentinel, .sentinel, .pinned], laidTests := true, laidLooks := .later }
def ManifestsFullCardSaid : Prop := Claim7.holds Tryz.pinned (.plain (OpenSpec.ofChange manifestsFullSpec)) manifestsFullCard

/-- THE TIED CARD OF 'bucketlinelaw14.ManifestsUndo'. -/
def manifestsUndoCard : Claim7 := { stood := { row := manifestsUndoRow, standIns := [], harness := (true, "191bccad3ec487867833a6047fdf7a14ef4b0dd15d8e684929c1a706eae87e12"), looks := true }, kinds := [], alts := [], laidByText := true, laidKinds := [.data, .data, .data, .data, .sentinel, .sentinel, .pinned], laidTests := true, laidLooks := .later }
def ManifestsUndoCardSaid : Prop := Claim7.holds Tryz.pinned (.plain (OpenSpec.ofChange manifestsUndoSpec)) manifestsUndoCard

/-- THE SECOND FORM's CARD OF 'bucketlinelaw05.FilesPlay'. -/
def filesPlayUptoCard : Claim7 := { stood := { row := filesPlayUptoRow, standIns := [], harness := (true, "191bccad3ec487867833a6047fdf7a14ef4b0dd15d8e684929c1a706eae87e12"), looks := true }, kinds := [], alts := [], laidByText := true, laidKinds := [.data, .data, .data, .data, .pinned], laidTests := true, laidLooks := .later }
def FilesPlayUptoCardSaid : Prop := Claim7.holds Tryz.pinned (.plain (OpenSpec.upto filesPlaySpec)) filesPlayUptoCard

/-- THE SECOND FORM's CARD OF 'bucketlinelaw06.JournalsPlay'. -/
def journalsPlayUptoCard : Claim7 := { stood := { row := journalsPlayUptoRow, standIns := [], harness := (true, "191bccad3ec487867833a6047fdf7a14ef4b0dd15d8e684929c1a706eae87e12"), looks := true }, kinds := [], alts := [], laidByText := true, laidKinds := [.data, .data, .data, .data, .pinned], laidTests := true, laidLooks := .later }
def JournalsPlayUptoCardSaid : Prop := Claim7.holds Tryz.pinned (.plain (OpenSpec.upto journalsPlaySpec)) journalsPlayUptoCard

/-- THE SECOND FORM's CARD OF 'bucketlinelaw14.ManifestsFull'. -/
def manifestsFullUptoCard : Claim7 := { stood := { row := manifestsFullUptoRow, standIns := [], harness := (true, "191bccad3ec487867833a6047fdf7a14ef4b0dd15d8e684929c1a706eae87e12"), looks := true }, kinds := [], alts := [], laidByText := true, laidKinds := [.data, .data, .data, .data, .sentinel, .sentinel, .pinned], laidTests := true, laidLooks := .later }
def ManifestsFullUptoCardSaid : Prop := Claim7.holds Tryz.pinned (.plain (OpenSpec.upto manifestsFullSpec)) manifestsFullUptoCard

/-- THE SECOND FORM's CARD OF 'bucketlinelaw14.ManifestsUndo'. -/
def manifestsUndoUptoCard : Claim7 := { stood := { row := manifestsUndoUptoRow, standIns := [], harness := (true, "191bccad3ec487867833a6047fdf7a14ef4b0dd15d8e684929c1a706eae87e12"), looks := true }, kinds := [], alts := [], laidByText := true, laidKinds := [.data, .data, .data, .data, .sentinel, .sentinel, .pinned], laidTests := true, laidLooks := .later }
def ManifestsUndoUptoCardSaid : Prop := Claim7.holds Tryz.pinned (.plain (OpenSpec.upto manifestsUndoSpec)) manifestsUndoUptoCard
end Rows
end Go.Proofs.YtcakdaadbpimaaaGreatDoor
