/-
  DERIVED. GIVEN WITH THE SEED: THE CARDS: each row of YtmhlebpchllpbaaGreatDoorRows.lean that lists a variable, with what it lists TIED to the program's text (the seventh form; the later family's looks); each row that meets fmt, with fmt's text TOLD by the authors' own Lean function (tested against real Go, not proved from fmt's source: count such statements apart). THE CARD IS WHAT COUNTS. Prove the row's statement (the work); the ties are given (YtmhlebpchllpbaaGreatDoorTie.lean); close each card by the builder's one call (the guide's Derived/Test/ToyasCard.lean, 'card_holds'). Laid BY PROGRAM, IN A SANDBOX (cutbox-door.mjs). By AI agents, Wed Nov 11 2026. No macro, syntax, notation, axiom, sorry.
-/
import Derived.Test.YtmhlebpchllpbaaGreatDoorRows
import GoSem.ClaimSeven
namespace Go.Proofs.YtmhlebpchllpbaaGreatDoor
namespace Rows

/-- THE TIED CARD OF 'bucketlinelaw14.ManifestsFull'. -/
def manifestsFullCard : Claim7 := { stood := { row := manifestsFullRow, standIns := [], harness := (true, "adb898a42c8553acdf8dc9dc3a9e3949f28b2adf78b69336dee8cd8f1913a1cd"), looks := true }, kinds := [], alts := [], laidByText := true, laidKinds := [.data, .data, .data, .data, .sentinel, .sentinel, .pinned], laidTests := true, laidLooks := .later }
def ManifestsFullCardSaid : Prop := Claim7.holds Tryz.pinned (.plain (OpenSpec.ofChange manifestsFullSpec)) manifestsFullCard

/-- THE TIED CARD OF 'bucketlinelaw14.ManifestsUndo'. -/
def manifestsUndoCard : Claim7 := { stood := { row := manifestsUndoRow, standIns := [], harness := (true, "adb898a42c8553acdf8dc9dc3a9e3949f28b2adf78b69336dee8cd8f1913a1cd"), looks := true }, kinds := [], alts := [], laidByText := true, laidKinds := [.data, .data, .data, .data, .sentinel, .sentinel, .pinned], laidTests := true, laidLooks := .later }
def ManifestsUndoCardSaid : Prop := Claim7.holds Tryz.pinned (.plain (OpenSpec.ofChange manifestsUndoSpec)) manifestsUndoCard

/-- THE SECOND FORM's CARD OF 'bucketlinelaw14.ManifestsFull'. -/
def manifestsFullUptoCard : Claim7 := { stood := { row := manifestsFullUptoRow, standIns := [], harness := (true, "adb898a42c8553acdf8dc9dc3a9e3949f28b2adf78b69336dee8cd8f1913a1cd"), looks := true }, kinds := [], alts := [], laidByText := true, laidKinds := [.data, .data, .data, .data, .sentinel, .sentinel, .pinned], laidTests := true, laidLooks := .later }
def ManifestsFullUptoCardSaid : Prop := Claim7.holds Tryz.pinned (.plain (OpenSpec.upto manifestsFullSpec)) manifestsFullUptoCard

/-- THE SECOND FORM's CARD OF 'bucketlinelaw14.ManifestsUndo'. -/
def manifestsUndoUptoCard : Claim7 := { stood := { row := manifestsUndoUptoRow, standIns := [], harness := (true, "adb898a42c8553acdf8dc9dc3a9e3949f28b2adf78b69336dee8cd8f1913a1cd"), looks := true }, kinds := [], alts := [], laidByText := true, laidKinds := [.data, .data, .data, .data, .sentinel, .sentinel, .pinned], laidTests := true, laidLooks := .later }
def ManifestsUndoUptoCardSaid : Prop := Claim7.holds Tryz.pinned (.plain (OpenSpec.upto manifestsUndoSpec)) manifestsUndoUptoCard
end Rows
end Go.Proofs.YtmhlebpchllpbaaGreatDoor
