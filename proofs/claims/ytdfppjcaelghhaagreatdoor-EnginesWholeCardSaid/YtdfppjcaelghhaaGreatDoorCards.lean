/-
  DERIVED. GIVEN WITH THE SEED: THE CARDS: each row of YtdfppjcaelghhaaGreatDoorRows.lean that lists a variable, with what it lists TIED to the program's text (the seventh form; the later family's looks); each row that meets fmt, with fmt's text TOLD by the authors' own Lean function (tested against real Go, not proved from fmt's source: count such statements apart). THE CARD IS WHAT COUNTS. Prove the row's statement (the work); the ties are given (YtdfppjcaelghhaaGreatDoorTie.lean); close each card by the builder's one call (the guide's Derived/Test/ToyasCard.lean, 'card_holds'). Laid BY PROGRAM, IN A SANDBOX (cutbox-door.mjs). By AI agents, Wed Nov 11 2026. No macro, syntax, notation, axiom, sorry.
-/
import Derived.Test.YtdfppjcaelghhaaGreatDoorRows
import GoSem.ClaimSeven
namespace Go.Proofs.YtdfppjcaelghhaaGreatDoor
namespace Rows

/-- THE TIED CARD OF 'bucketlinelaw15.EnginesHeld'. -/
def enginesHeldCard : Claim7 := { stood := { row := enginesHeldRow, standIns := [], harness := (true, "6260a27277163e8c99b5e59c1a521144881276870e3297e696a418ab53e32014"), looks := true }, kinds := [], alts := [], laidByText := true, laidKinds := [.data, .data, .data, .data, .sentinel, .sentinel, .pinned], laidTests := true, laidLooks := .later }
def EnginesHeldCardSaid : Prop := Claim7.holds Tryz.pinned (.plain (OpenSpec.ofChange enginesHeldSpec)) enginesHeldCard

/-- THE TIED CARD OF 'bucketlinelaw15.EnginesCompact'. -/
def enginesCompactCard : Claim7 := { stood := { row := enginesCompactRow, standIns := [], harness := (true, "6260a27277163e8c99b5e59c1a521144881276870e3297e696a418ab53e32014"), looks := true }, kinds := [], alts := [], laidByText := true, laidKinds := [.data, .data, .data, .data, .sentinel, .sentinel, .pinned], laidTests := true, laidLooks := .later }
def EnginesCompactCardSaid : Prop := Claim7.holds Tryz.pinned (.plain (OpenSpec.ofChange enginesCompactSpec)) enginesCompactCard

/-- THE TIED CARD OF 'bucketlinelaw15.EnginesWhole'. -/
def enginesWholeCard : Claim7 := { stood := { row := enginesWholeRow, standIns := [], harness := (true, "6260a27277163e8c99b5e59c1a521144881276870e3297e696a418ab53e32014"), looks := true }, kinds := [], alts := [], laidByText := true, laidKinds := [.data, .data, .data, .data, .sentinel, .sentinel, .pinned], laidTests := true, laidLooks := .later }
def EnginesWholeCardSaid : Prop := Claim7.holds Tryz.pinned (.plain (OpenSpec.ofChange enginesWholeSpec)) enginesWholeCard

/-- THE SECOND FORM's CARD OF 'bucketlinelaw15.EnginesHeld'. -/
def enginesHeldUptoCard : Claim7 := { stood := { row := enginesHeldUptoRow, standIns := [], harness := (true, "6260a27277163e8c99b5e59c1a521144881276870e3297e696a418ab53e32014"), looks := true }, kinds := [], alts := [], laidByText := true, laidKinds := [.data, .data, .data, .data, .sentinel, .sentinel, .pinned], laidTests := true, laidLooks := .later }
def EnginesHeldUptoCardSaid : Prop := Claim7.holds Tryz.pinned (.plain (OpenSpec.upto enginesHeldSpec)) enginesHeldUptoCard

/-- THE SECOND FORM's CARD OF 'bucketlinelaw15.EnginesCompact'. -/
def enginesCompactUptoCard : Claim7 := { stood := { row := enginesCompactUptoRow, standIns := [], harness := (true, "6260a27277163e8c99b5e59c1a521144881276870e3297e696a418ab53e32014"), looks := true }, kinds := [], alts := [], laidByText := true, laidKinds := [.data, .data, .data, .data, .sentinel, .sentinel, .pinned], laidTests := true, laidLooks := .later }
def EnginesCompactUptoCardSaid : Prop := Claim7.holds Tryz.pinned (.plain (OpenSpec.upto enginesCompactSpec)) enginesCompactUptoCard

/-- THE SECOND FORM's CARD OF 'bucketlinelaw15.EnginesWhole'. -/
def enginesWholeUptoCard : Claim7 := { stood := { row := enginesWholeUptoRow, standIns := [], harness := (true, "6260a27277163e8c99b5e59c1a521144881276870e3297e696a418ab53e32014"), looks := true }, kinds := [], alts := [], laidByText := true, laidKinds := [.data, .data, .data, .data, .sentinel, .sentinel, .pinned], laidTests := true, laidLooks := .later }
def EnginesWholeUptoCardSaid : Prop := Claim7.holds Tryz.pinned (.plain (OpenSpec.upto enginesWholeSpec)) enginesWholeUptoCard
end Rows
end Go.Proofs.YtdfppjcaelghhaaGreatDoor
