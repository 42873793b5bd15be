/-
  DERIVED. GIVEN WITH THE SEED: THE CARDS: each row of YtabekogiaobnfaaDoorRows.lean that lists a variable, with what it lists TIED to the program's text (the seventh form; the later family's looks); each row that meets fmt, with fmt's text TOLD by the authors' own Lean function (tested against real Go, not proved from fmt's source: count such statements apart). THE CARD IS WHAT COUNTS. Prove the row's statement (the work); the ties are given (YtabekogiaobnfaaDoorTie.lean); close each card by the builder's one call (the guide's Derived/Test/ToyasCard.lean, 'card_holds'). Laid BY PROGRAM, IN A SANDBOX (cutbox-door.mjs). By AI agents, Wed Nov 11 2026. No macro, syntax, notation, axiom, sorry.
-/
import Derived.Test.YtabekogiaobnfaaDoorRows
import GoSem.ClaimSeven
namespace Go.Proofs.YtabekogiaobnfaaDoor
namespace Rows

/-- THE TIED CARD OF 'bucketlinelaw06.JournalsNone'. -/
def journalsNoneCard : Claim7 := { stood := { row := journalsNoneRow, standIns := [], harness := (true, "1e8b6854fb24da336d4ae92ca1c46900b18af92864a4909317a13a073f08c2fc"), looks := true }, kinds := [], alts := [], laidByText := true, laidKinds := [.data, .pinned], laidTests := true, laidLooks := .later }
def JournalsNoneCardSaid : Prop := Claim7.holds Tryd.pinned (.plain (OpenSpec.ofChange journalsNoneSpec)) journalsNoneCard

/-- THE TIED CARD OF 'bucketlinelaw06.JournalsBack'. -/
def journalsBackCard : Claim7 := { stood := { row := journalsBackRow, standIns := [], harness := (true, "1e8b6854fb24da336d4ae92ca1c46900b18af92864a4909317a13a073f08c2fc"), looks := true }, kinds := [], alts := [], laidByText := true, laidKinds := [.data, .pinned], laidTests := true, laidLooks := .later }
def JournalsBackCardSaid : Prop := Claim7.holds Tryd.pinned (.plain (OpenSpec.ofChange journalsBackSpec)) journalsBackCard

/-- THE TIED CARD OF 'bucketlinelaw06.JournalsSize'. -/
def journalsSizeCard : Claim7 := { stood := { row := journalsSizeRow, standIns := [], harness := (true, "1e8b6854fb24da336d4ae92ca1c46900b18af92864a4909317a13a073f08c2fc"), looks := true }, kinds := [], alts := [], laidByText := true, laidKinds := [.data, .pinned], laidTests := true, laidLooks := .later }
def JournalsSizeCardSaid : Prop := Claim7.holds Tryd.pinned (.plain (OpenSpec.ofChange journalsSizeSpec)) journalsSizeCard

/-- THE TIED CARD OF 'bucketlinelaw06.JournalsCut'. -/
def journalsCutCard : Claim7 := { stood := { row := journalsCutRow, standIns := [], harness := (true, "1e8b6854fb24da336d4ae92ca1c46900b18af92864a4909317a13a073f08c2fc"), looks := true }, kinds := [], alts := [], laidByText := true, laidKinds := [.data, .pinned], laidTests := true, laidLooks := .later }
def JournalsCutCardSaid : Prop := Claim7.holds Tryd.pinned (.plain (OpenSpec.ofChange journalsCutSpec)) journalsCutCard

/-- THE TIED CARD OF 'bucketlinelaw06.JournalsTurned'. -/
def journalsTurnedCard : Claim7 := { stood := { row := journalsTurnedRow, standIns := [], harness := (true, "1e8b6854fb24da336d4ae92ca1c46900b18af92864a4909317a13a073f08c2fc"), looks := true }, kinds := [], alts := [], laidByText := true, laidKinds := [.data, .pinned], laidTests := true, laidLooks := .later }
def JournalsTurnedCardSaid : Prop := Claim7.holds Tryd.pinned (.plain (OpenSpec.ofChange journalsTurnedSpec)) journalsTurnedCard

/-- THE TIED CARD OF 'bucketlinelaw06.JournalsSure'. -/
def journalsSureCard : Claim7 := { stood := { row := journalsSureRow, standIns := [], harness := (true, "1e8b6854fb24da336d4ae92ca1c46900b18af92864a4909317a13a073f08c2fc"), looks := true }, kinds := [], alts := [], laidByText := true, laidKinds := [.data, .pinned], laidTests := true, laidLooks := .later }
def JournalsSureCardSaid : Prop := Claim7.holds Tryd.pinned (.plain (OpenSpec.ofChange journalsSureSpec)) journalsSureCard

/-- THE TIED CARD OF 'bucketlinelaw05.FilesBytes'. -/
def filesBytesCard : Claim7 := { stood := { row := filesBytesRow, standIns := [], harness := (true, "1e8b6854fb24da336d4ae92ca1c46900b18af92864a4909317a13a073f08c2fc"), looks := true }, kinds := [], alts := [], laidByText := true, laidKinds := [.data, .pinned], laidTests := true, laidLooks := .later }
def FilesBytesCardSaid : Prop := Claim7.holds Tryd.pinned (.plain (OpenSpec.ofChange filesBytesSpec)) filesBytesCard

/-- THE TIED CARD OF 'bucketlinelaw05.FilesMoves'. -/
def filesMovesCard : Claim7 := { stood := { row := filesMovesRow, standIns := [], harness := (true, "1e8b6854fb24da336d4ae92ca1c46900b18af92864a4909317a13a073f08c2fc"), looks := true }, kinds := [], alts := [], laidByText := true, laidKinds := [.data, .pinned], laidTests := true, laidLooks := .later }
def FilesMovesCardSaid : Prop := Claim7.holds Tryd.pinned (.plain (OpenSpec.ofChange filesMovesSpec)) filesMovesCard

/-- THE TIED CARD OF 'bucketlinelaw05.FilesApart'. -/
def filesApartCard : Claim7 := { stood := { row := filesApartRow, standIns := [], harness := (true, "1e8b6854fb24da336d4ae92ca1c46900b18af92864a4909317a13a073f08c2fc"), looks := true }, kinds := [], alts := [], laidByText := true, laidKinds := [.data, .pinned], laidTests := true, laidLooks := .later }
def FilesApartCardSaid : Prop := Claim7.holds Tryd.pinned (.plain (OpenSpec.ofChange filesApartSpec)) filesApartCard

/-- THE TIED CARD OF 'bucketlinelaw05.FilesKeep'. -/
def filesKeepCard : Claim7 := { stood := { row := filesKeepRow, standIns := [], harness := (true, "1e8b6854fb24da336d4ae92ca1c46900b18af92864a4909317a13a073f08c2fc"), looks := true }, kinds := [], alts := [], laidByText := true, laidKinds := [.data, .pinned], laidTests := true, laidLooks := .later }
def FilesKeepCardSaid : Prop := Claim7.holds Tryd.pinned (.plain (OpenSpec.ofChange filesKeepSpec)) filesKeepCard

/-- THE TIED CARD OF 'bucketlinelaw05.FilesNone'. -/
def filesNoneCard : Claim7 := { stood := { row := filesNoneRow, standIns := [], harness := (true, "1e8b6854fb24da336d4ae92ca1c46900b18af92864a4909317a13a073f08c2fc"), looks := true }, kinds := [], alts := [], laidByText := true, laidKinds := [.data, .pinned], laidTests := true, laidLooks := .later }
def FilesNoneCardSaid : Prop := Claim7.holds Tryd.pinned (.plain (OpenSpec.ofChange filesNoneSpec)) filesNoneCard

/-- THE TIED CARD OF 'bucketlinelaw05.FilesSure'. -/
def filesSureCard : Claim7 := { stood := { row := filesSureRow, standIns := [], harness := (true, "1e8b6854fb24da336d4ae92ca1c46900b18af92864a4909317a13a073f08c2fc"), looks := true }, kinds := [], alts := [], laidByText := true, laidKinds := [.data, .pinned], laidTests := true, laidLooks := .later }
def FilesSureCardSaid : Prop := Claim7.holds Tryd.pinned (.plain (OpenSpec.ofChange filesSureSpec)) filesSureCard

/-- THE TIED CARD OF 'bucketlinelaw05.FilesRoom'. -/
def filesRoomCard : Claim7 := { stood := { row := filesRoomRow, standIns := [], harness := (true, "1e8b6854fb24da336d4ae92ca1c46900b18af92864a4909317a13a073f08c2fc"), looks := true }, kinds := [], alts := [], laidByText := true, laidKinds := [.data, .pinned], laidTests := true, laidLooks := .later }
def FilesRoomCardSaid : Prop := Claim7.holds Tryd.pinned (.plain (OpenSpec.ofChange filesRoomSpec)) filesRoomCard

/-- THE TIED CARD OF 'bucketlinelaw05.FilesNames'. -/
def filesNamesCard : Claim7 := { stood := { row := filesNamesRow, standIns := [], harness := (true, "1e8b6854fb24da336d4ae92ca1c46900b18af92864a4909317a13a073f08c2fc"), looks := true }, kinds := [], alts := [], laidByText := true, laidKinds := [.data, .pinned], laidTests := true, laidLooks := .later }
def FilesNamesCardSaid : Prop := Claim7.holds Tryd.pinned (.plain (OpenSpec.ofChange filesNamesSpec)) filesNamesCard

/-- THE TIED CARD OF 'bucketlinelaw05.FilesTwice'. -/
def filesTwiceCard : Claim7 := { stood := { row := filesTwiceRow, standIns := [], harness := (true, "1e8b6854fb24da336d4ae92ca1c46900b18af92864a4909317a13a073f08c2fc"), looks := true }, kinds := [], alts := [], laidByText := true, laidKinds := [.data, .pinned], laidTests := true, laidLooks := .later }
def FilesTwiceCardSaid : Prop := Claim7.holds Tryd.pinned (.plain (OpenSpec.ofChange filesTwiceSpec)) filesTwiceCard

/-- THE TIED CARD OF 'bucketlinelaw06.JournalsNames'. -/
def journalsNamesCard : Claim7 := { stood := { row := journalsNamesRow, standIns := [], harness := (true, "1e8b6854fb24da336d4ae92ca1c46900b18af92864a4909317a13a073f08c2fc"), looks := true }, kinds := [], alts := [], laidByText := true, laidKinds := [.data, .pinned], laidTests := true, laidLooks := .later }
def JournalsNamesCardSaid : Prop := Claim7.holds Tryd.pinned (.plain (OpenSpec.ofChange journalsNamesSpec)) journalsNamesCard

/-- THE SECOND FORM's CARD OF 'bucketlinelaw06.JournalsNone'. -/
def journalsNoneUptoCard : Claim7 := { stood := { row := journalsNoneUptoRow, standIns := [], harness := (true, "1e8b6854fb24da336d4ae92ca1c46900b18af92864a4909317a13a073f08c2fc"), looks := true }, kinds := [], alts := [], laidByText := true, laidKinds := [.data, .pinned], laidTests := true, laidLooks := .later }
def JournalsNoneUptoCardSaid : Prop := Claim7.holds Tryd.pinned (.plain (OpenSpec.upto journalsNoneSpec)) journalsNoneUptoCard

/-- THE SECOND FORM's CARD OF 'bucketlinelaw06.JournalsBack'. -/
def journalsBackUptoCard : Claim7 := { stood := { row := journalsBackUptoRow, standIns := [], harness := (true, "1e8b6854fb24da336d4ae92ca1c46900b18af92864a4909317a13a073f08c2fc"), looks := true }, kinds := [], alts := [], laidByText := true, laidKinds := [.data, .pinned], laidTests := true, laidLooks := .later }
def JournalsBackUptoCardSaid : Prop := Claim7.holds Tryd.pinned (.plain (OpenSpec.upto journalsBackSpec)) journalsBackUptoCard

/-- THE SECOND FORM's CARD OF 'bucketlinelaw06.JournalsSize'. -/
def journalsSizeUptoCard : Claim7 := { stood := { row := journalsSizeUptoRow, standIns := [], harness := (true, "1e8b6854fb24da336d4ae92ca1c46900b18af92864a4909317a13a073f08c2fc"), looks := true }, kinds := [], alts := [], laidByText := true, laidKinds := [.data, .pinned], laidTests := true, laidLooks := .later }
def JournalsSizeUptoCardSaid : Prop := Claim7.holds Tryd.pinned (.plain (OpenSpec.upto journalsSizeSpec)) journalsSizeUptoCard

/-- THE SECOND FORM's CARD OF 'bucketlinelaw06.JournalsCut'. -/
def journalsCutUptoCard : Claim7 := { stood := { row := journalsCutUptoRow, standIns := [], harness := (true, "1e8b6854fb24da336d4ae92ca1c46900b18af92864a4909317a13a073f08c2fc"), looks := true }, kinds := [], alts := [], laidByText := true, laidKinds := [.data, .pinned], laidTests := true, laidLooks := .later }
def JournalsCutUptoCardSaid : Prop := Claim7.holds Tryd.pinned (.plain (OpenSpec.upto journalsCutSpec)) journalsCutUptoCard

/-- THE SECOND FORM's CARD OF 'bucketlinelaw06.JournalsTurned'. -/
def journalsTurnedUptoCard : Claim7 := { stood := { row := journalsTurnedUptoRow, standIns := [], harness := (true, "1e8b6854fb24da336d4ae92ca1c46900b18af92864a4909317a13a073f08c2fc"), looks := true }, kinds := [], alts := [], laidByText := true, laidKinds := [.data, .pinned], laidTests := true, laidLooks := .later }
def JournalsTurnedUptoCardSaid : Prop := Claim7.holds Tryd.pinned (.plain (OpenSpec.upto journalsTurnedSpec)) journalsTurnedUptoCard

/-- THE SECOND FORM's CARD OF 'bucketlinelaw06.JournalsSure'. -/
def journalsSureUptoCard : Claim7 := { stood := { row := journalsSureUptoRow, standIns := [], harness := (true, "1e8b6854fb24da336d4ae92ca1c46900b18af92864a4909317a13a073f08c2fc"), looks := true }, kinds := [], alts := [], laidByText := true, laidKinds := [.data, .pinned], laidTests := true, laidLooks := .later }
def JournalsSureUptoCardSaid : Prop := Claim7.holds Tryd.pinned (.plain (OpenSpec.upto journalsSureSpec)) journalsSureUptoCard

/-- THE SECOND FORM's CARD OF 'bucketlinelaw05.FilesBytes'. -/
def filesBytesUptoCard : Claim7 := { stood := { row := filesBytesUptoRow, standIns := [], harness := (true, "1e8b6854fb24da336d4ae92ca1c46900b18af92864a4909317a13a073f08c2fc"), looks := true }, kinds := [], alts := [], laidByText := true, laidKinds := [.data, .pinned], laidTests := true, laidLooks := .later }
def FilesBytesUptoCardSaid : Prop := Claim7.holds Tryd.pinned (.plain (OpenSpec.upto filesBytesSpec)) filesBytesUptoCard

/-- THE SECOND FORM's CARD OF 'bucketlinelaw05.FilesMoves'. -/
def filesMovesUptoCard : Claim7 := { stood := { row := filesMovesUptoRow, standIns := [], harness := (true, "1e8b6854fb24da336d4ae92ca1c46900b18af92864a4909317a13a073f08c2fc"), looks := true }, kinds := [], alts := [], laidByText := true, laidKinds := [.data, .pinned], laidTests := true, laidLooks := .later }
def FilesMovesUptoCardSaid : Prop := Claim7.holds Tryd.pinned (.plain (OpenSpec.upto filesMovesSpec)) filesMovesUptoCard

/-- THE SECOND FORM's CARD OF 'bucketlinelaw05.FilesApart'. -/
def filesApartUptoCard : Claim7 := { stood := { row := filesApartUptoRow, standIns := [], harness := (true, "1e8b6854fb24da336d4ae92ca1c46900b18af92864a4909317a13a073f08c2fc"), looks := true }, kinds := [], alts := [], laidByText := true, laidKinds := [.data, .pinned], laidTests := true, laidLooks := .later }
def FilesApartUptoCardSaid : Prop := Claim7.holds Tryd.pinned (.plain (OpenSpec.upto filesApartSpec)) filesApartUptoCard

/-- THE SECOND FORM's CARD OF 'bucketlinelaw05.FilesKeep'. -/
def filesKeepUptoCard : Claim7 := { stood := { row := filesKeepUptoRow, standIns := [], harness := (true, "1e8b6854fb24da336d4ae92ca1c46900b18af92864a4909317a13a073f08c2fc"), looks := true }, kinds := [], alts := [], laidByText := true, laidKinds := [.data, .pinned], laidTests := true, laidLooks := .later }
def FilesKeepUptoCardSaid : Prop := Claim7.holds Tryd.pinned (.plain (OpenSpec.upto filesKeepSpec)) filesKeepUptoCard

/-- THE SECOND FORM's CARD OF 'bucketlinelaw05.FilesNone'. -/
def filesNoneUptoCard : Claim7 := { stood := { row := filesNoneUptoRow, standIns := [], harness := (true, "1e8b6854fb24da336d4ae92ca1c46900b18af92864a4909317a13a073f08c2fc"), looks := true }, kinds := [], alts := [], laidByText := true, laidKinds := [.data, .pinned], laidTests := true, laidLooks := .later }
def FilesNoneUptoCardSaid : Prop := Claim7.holds Tryd.pinned (.plain (OpenSpec.upto filesNoneSpec)) filesNoneUptoCard

/-- THE SECOND FORM's CARD OF 'bucketlinelaw05.FilesSure'. -/
def filesSureUptoCard : Claim7 := { stood := { row := filesSureUptoRow, standIns := [], harness := (true, "1e8b6854fb24da336d4ae92ca1c46900b18af92864a4909317a13a073f08c2fc"), looks := true }, kinds := [], alts := [], laidByText := true, laidKinds := [.data, .pinned], laidTests := true, laidLooks := .later }
def FilesSureUptoCardSaid : Prop := Claim7.holds Tryd.pinned (.plain (OpenSpec.upto filesSureSpec)) filesSureUptoCard

/-- THE SECOND FORM's CARD OF 'bucketlinelaw05.FilesRoom'. -/
def filesRoomUptoCard : Claim7 := { stood := { row := filesRoomUptoRow, standIns := [], harness := (true, "1e8b6854fb24da336d4ae92ca1c46900b18af92864a4909317a13a073f08c2fc"), looks := true }, kinds := [], alts := [], laidByText := true, laidKinds := [.data, .pinned], laidTests := true, laidLooks := .later }
def FilesRoomUptoCardSaid : Prop := Claim7.holds Tryd.pinned (.plain (OpenSpec.upto filesRoomSpec)) filesRoomUptoCard

/-- THE SECOND FORM's CARD OF 'bucketlinelaw05.FilesNames'. -/
def filesNamesUptoCard : Claim7 := { stood := { row := filesNamesUptoRow, standIns := [], harness := (true, "1e8b6854fb24da336d4ae92ca1c46900b18af92864a4909317a13a073f08c2fc"), looks := true }, kinds := [], alts := [], laidByText := true, laidKinds := [.data, .pinned], laidTests := true, laidLooks := .later }
def FilesNamesUptoCardSaid : Prop := Claim7.holds Tryd.pinned (.plain (OpenSpec.upto filesNamesSpec)) filesNamesUptoCard

/-- THE SECOND FORM's CARD OF 'bucketlinelaw05.FilesTwice'. -/
def filesTwiceUptoCard : Claim7 := { stood := { row := filesTwiceUptoRow, standIns := [], harness := (true, "1e8b6854fb24da336d4ae92ca1c46900b18af92864a4909317a13a073f08c2fc"), looks := true }, kinds := [], alts := [], laidByText := true, laidKinds := [.data, .pinned], laidTests := true, laidLooks := .later }
def FilesTwiceUptoCardSaid : Prop := Claim7.holds Tryd.pinned (.plain (OpenSpec.upto filesTwiceSpec)) filesTwiceUptoCard

/-- THE SECOND FORM's CARD OF 'bucketlinelaw06.JournalsNames'. -/
def journalsNamesUptoCard : Claim7 := { stood := { row := journalsNamesUptoRow, standIns := [], harness := (true, "1e8b6854fb24da336d4ae92ca1c46900b18af92864a4909317a13a073f08c2fc"), looks := true }, kinds := [], alts := [], laidByText := true, laidKinds := [.data, .pinned], laidTests := true, laidLooks := .later }
def JournalsNamesUptoCardSaid : Prop := Claim7.holds Tryd.pinned (.plain (OpenSpec.upto journalsNamesSpec)) journalsNamesUptoCard
end Rows
end Go.Proofs.YtabekogiaobnfaaDoor
