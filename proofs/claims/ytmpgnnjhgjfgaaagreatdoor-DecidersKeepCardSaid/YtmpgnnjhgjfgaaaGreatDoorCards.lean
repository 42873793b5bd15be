/-
  DERIVED. GIVEN WITH THE SEED: THE CARDS: each row of YtmpgnnjhgjfgaaaGreatDoorRows.lean that lists a variable, with what it lists TIED to the program's text (the seventh form; the later family's looks); each row that meets fmt, with fmt's text TOLD by the authors' own Lean function (tested against real Go, not proved from fmt's source: count such statements apart). THE CARD IS WHAT COUNTS. Prove the row's statement (the work); the ties are given (YtmpgnnjhgjfgaaaGreatDoorTie.lean); close each card by the builder's one call (the guide's Derived/Test/ToyasCard.lean, 'card_holds'). Laid BY PROGRAM, IN A SANDBOX (cutbox-door.mjs). By AI agents, Wed Nov 11 2026. No macro, syntax, notation, axiom, sorry.
-/
import Derived.Test.YtmpgnnjhgjfgaaaGreatDoorRows
import GoSem.ClaimSeven
namespace Go.Proofs.YtmpgnnjhgjfgaaaGreatDoor
namespace Rows

/-- THE TIED CARD OF 'bucketlinelaw19.DecidersHolder'. -/
def decidersHolderCard : Claim7 := { stood := { row := decidersHolderRow, standIns := [], harness := (true, "2f7732c3cbfc0b48fb13f3f153ab6f755ac6bf1c846c3d149dd1ad117882c161"), looks := true }, kinds := [], alts := [], laidByText := true, laidKinds := [.data, .pinned], laidTests := true, laidLooks := .later }
def DecidersHolderCardSaid : Prop := Claim7.holds Tryz.pinned (.plain (OpenSpec.ofChange decidersHolderSpec)) decidersHolderCard

/-- THE TIED CARD OF 'bucketlinelaw19.DecidersKeep'. -/
def decidersKeepCard : Claim7 := { stood := { row := decidersKeepRow, standIns := [], harness := (true, "2f7732c3cbfc0b48fb13f3f153ab6f755ac6bf1c846c3d149dd1ad117882c161"), looks := true }, kinds := [], alts := [], laidByText := true, laidKinds := [.data, .pinned], laidTests := true, laidLooks := .later }
def DecidersKeepCardSaid : Prop := Claim7.holds Tryz.pinned (.plain (OpenSpec.ofChange decidersKeepSpec)) decidersKeepCard

/-- THE TIED CARD OF 'bucketlinelaw19.DecidersRise'. -/
def decidersRiseCard : Claim7 := { stood := { row := decidersRiseRow, standIns := [], harness := (true, "2f7732c3cbfc0b48fb13f3f153ab6f755ac6bf1c846c3d149dd1ad117882c161"), looks := true }, kinds := [], alts := [], laidByText := true, laidKinds := [.data, .pinned], laidTests := true, laidLooks := .later }
def DecidersRiseCardSaid : Prop := Claim7.holds Tryz.pinned (.plain (OpenSpec.ofChange decidersRiseSpec)) decidersRiseCard

/-- THE TIED CARD OF 'bucketlinelaw19.DecidersSure'. -/
def decidersSureCard : Claim7 := { stood := { row := decidersSureRow, standIns := [], harness := (true, "2f7732c3cbfc0b48fb13f3f153ab6f755ac6bf1c846c3d149dd1ad117882c161"), looks := true }, kinds := [], alts := [], laidByText := true, laidKinds := [.data, .pinned], laidTests := true, laidLooks := .later }
def DecidersSureCardSaid : Prop := Claim7.holds Tryz.pinned (.plain (OpenSpec.ofChange decidersSureSpec)) decidersSureCard

/-- THE SECOND FORM's CARD OF 'bucketlinelaw19.DecidersHolder'. -/
def decidersHolderUptoCard : Claim7 := { stood := { row := decidersHolderUptoRow, standIns := [], harness := (true, "2f7732c3cbfc0b48fb13f3f153ab6f755ac6bf1c846c3d149dd1ad117882c161"), looks := true }, kinds := [], alts := [], laidByText := true, laidKinds := [.data, .pinned], laidTests := true, laidLooks := .later }
def DecidersHolderUptoCardSaid : Prop := Claim7.holds Tryz.pinned (.plain (OpenSpec.upto decidersHolderSpec)) decidersHolderUptoCard

/-- THE SECOND FORM's CARD OF 'bucketlinelaw19.DecidersKeep'. -/
def decidersKeepUptoCard : Claim7 := { stood := { row := decidersKeepUptoRow, standIns := [], harness := (true, "2f7732c3cbfc0b48fb13f3f153ab6f755ac6bf1c846c3d149dd1ad117882c161"), looks := true }, kinds := [], alts := [], laidByText := true, laidKinds := [.data, .pinned], laidTests := true, laidLooks := .later }
def DecidersKeepUptoCardSaid : Prop := Claim7.holds Tryz.pinned (.plain (OpenSpec.upto decidersKeepSpec)) decidersKeepUptoCard

/-- THE SECOND FORM's CARD OF 'bucketlinelaw19.DecidersRise'. -/
def decidersRiseUptoCard : Claim7 := { stood := { row := decidersRiseUptoRow, standIns := [], harness := (true, "2f7732c3cbfc0b48fb13f3f153ab6f755ac6bf1c846c3d149dd1ad117882c161"), looks := true }, kinds := [], alts := [], laidByText := true, laidKinds := [.data, .pinned], laidTests := true, laidLooks := .later }
def DecidersRiseUptoCardSaid : Prop := Claim7.holds Tryz.pinned (.plain (OpenSpec.upto decidersRiseSpec)) decidersRiseUptoCard

/-- THE SECOND FORM's CARD OF 'bucketlinelaw19.DecidersSure'. -/
def decidersSureUptoCard : Claim7 := { stood := { row := decidersSureUptoRow, standIns := [], harness := (true, "2f7732c3cbfc0b48fb13f3f153ab6f755ac6bf1c846c3d149dd1ad117882c161"), looks := true }, kinds := [], alts := [], laidByText := true, laidKinds := [.data, .pinned], laidTests := true, laidLooks := .later }
def DecidersSureUptoCardSaid : Prop := Claim7.holds Tryz.pinned (.plain (OpenSpec.upto decidersSureSpec)) decidersSureUptoCard
end Rows
end Go.Proofs.YtmpgnnjhgjfgaaaGreatDoor
