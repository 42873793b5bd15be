/-
  DERIVED. GIVEN WITH THE SEED: THE CARDS: each row of YtmpgnnjhgjfgaaaDoorRows.lean that lists a variable, with what it lists TIED to the program's text (the seventh form; the later family's looks); each row that meets fmt, with fmt's text TOLD by the authors' own Lean function (tested against real Go, not proved from fmt's source: count such statements apart). THE CARD IS WHAT COUNTS. Prove the row's statement (the work); the ties are given (YtmpgnnjhgjfgaaaDoorTie.lean); close each card by the builder's one call (the guide's Derived/Test/ToyasCard.lean, 'card_holds'). Laid BY PROGRAM, IN A SANDBOX (cutbox-door.mjs). By AI agents, Wed Nov 11 2026. No macro, syntax, notation, axiom, sorry.
-/
import Derived.Test.YtmpgnnjhgjfgaaaDoorRows
import GoSem.ClaimSeven
namespace Go.Proofs.YtmpgnnjhgjfgaaaDoor
namespace Rows

/-- THE TIED CARD OF 'bucketlinelaw06.JournalsBack'. -/
def journalsBackCard : Claim7 := { stood := { row := journalsBackRow, standIns := [], harness := (true, "24894dfc381e5cb61106f2adc77ae20aa0abf715f67438940ee537316b16800c"), looks := true }, kinds := [], alts := [], laidByText := true, laidKinds := [.data, .pinned], laidTests := true, laidLooks := .later }
def JournalsBackCardSaid : Prop := Claim7.holds Tryd.pinned (.plain (OpenSpec.ofChange journalsBackSpec)) journalsBackCard

/-- THE TIED CARD OF 'bucketlinelaw06.JournalsSize'. -/
def journalsSizeCard : Claim7 := { stood := { row := journalsSizeRow, standIns := [], harness := (true, "24894dfc381e5cb61106f2adc77ae20aa0abf715f67438940ee537316b16800c"), looks := true }, kinds := [], alts := [], laidByText := true, laidKinds := [.data, .pinned], laidTests := true, laidLooks := .later }
def JournalsSizeCardSaid : Prop := Claim7.holds Tryd.pinned (.plain (OpenSpec.ofChange journalsSizeSpec)) journalsSizeCard

/-- THE TIED CARD OF 'bucketlinelaw06.JournalsCut'. -/
def journalsCutCard : Claim7 := { stood := { row := journalsCutRow, standIns := [], harness := (true, "24894dfc381e5cb61106f2adc77ae20aa0abf715f67438940ee537316b16800c"), looks := true }, kinds := [], alts := [], laidByText := true, laidKinds := [.data, .pinned], laidTests := true, laidLooks := .later }
def JournalsCutCardSaid : Prop := Claim7.holds Tryd.pinned (.plain (OpenSpec.ofChange journalsCutSpec)) journalsCutCard

/-- THE TIED CARD OF 'bucketlinelaw06.JournalsTurned'. -/
def journalsTurnedCard : Claim7 := { stood := { row := journalsTurnedRow, standIns := [], harness := (true, "24894dfc381e5cb61106f2adc77ae20aa0abf715f67438940ee537316b16800c"), looks := true }, kinds := [], alts := [], laidByText := true, laidKinds := [.data, .pinned], laidTests := true, laidLooks := .later }
def JournalsTurnedCardSaid : Prop := Claim7.holds Tryd.pinned (.plain (OpenSpec.ofChange journalsTurnedSpec)) journalsTurnedCard

/-- THE TIED CARD OF 'bucketlinelaw06.JournalsSure'. -/
def journalsSureCard : Claim7 := { stood := { row := journalsSureRow, standIns := [], harness := (true, "24894dfc381e5cb61106f2adc77ae20aa0abf715f67438940ee537316b16800c"), looks := true }, kinds := [], alts := [], laidByText := true, laidKinds := [.data, .pinned], laidTests := true, laidLooks := .later }
def JournalsSureCardSaid : Prop := Claim7.holds Tryd.pinned (.plain (OpenSpec.ofChange journalsSureSpec)) journalsSureCard

/-- THE TIED CARD OF 'bucketlinelaw05.FilesTwice'. -/
def filesTwiceCard : Claim7 := { stood := { row := filesTwiceRow, standIns := [], harness := (true, "24894dfc381e5cb61106f2adc77ae20aa0abf715f67438940ee537316b16800c"), looks := true }, kinds := [], alts := [], laidByText := true, laidKinds := [.data, .pinned], laidTests := true, laidLooks := .later }
def FilesTwiceCardSaid : Prop := Claim7.holds Tryd.pinned (.plain (OpenSpec.ofChange filesTwiceSpec)) filesTwiceCard

/-- THE TIED CARD OF 'bucketlinelaw06.JournalsNames'. -/
def journalsNamesCard : Claim7 := { stood := { row := journalsNamesRow, standIns := [], harness := (true, "24894dfc381e5cb61106f2adc77ae20aa0abf715f67438940ee537316b16800c"), looks := true }, kinds := [], alts := [], laidByText := true, laidKinds := [.data, .pinned], laidTests := true, laidLooks := .later }
def JournalsNamesCardSaid : Prop := Claim7.holds Tryd.pinned (.plain (OpenSpec.ofChange journalsNamesSpec)) journalsNamesCard

/-- THE SECOND FORM's CARD OF 'bucketlinelaw06.JournalsBack'. -/
def journalsBackUptoCard : Claim7 := { stood := { row := journalsBackUptoRow, standIns := [], harness := (true, "24894dfc381e5cb61106f2adc77ae20aa0abf715f67438940ee537316b16800c"), looks := true }, kinds := [], alts := [], laidByText := true, laidKinds := [.data, .pinned], laidTests := true, laidLooks := .later }
def JournalsBackUptoCardSaid : Prop := Claim7.holds Tryd.pinned (.plain (OpenSpec.upto journalsBackSpec)) journalsBackUptoCard

/-- THE SECOND FORM's CARD OF 'bucketlinelaw06.JournalsSize'. -/
def journalsSizeUptoCard : Claim7 := { stood := { row := journalsSizeUptoRow, standIns := [], harness := (true, "24894dfc381e5cb61106f2adc77ae20aa0abf715f67438940ee537316b16800c"), looks := true }, kinds := [], alts := [], laidByText := true, laidKinds := [.data, .pinned], laidTests := true, laidLooks := .later }
def JournalsSizeUptoCardSaid : Prop := Claim7.holds Tryd.pinned (.plain (OpenSpec.upto journalsSizeSpec)) journalsSizeUptoCard

/-- THE SECOND FORM's CARD OF 'bucketlinelaw06.JournalsCut'. -/
def journalsCutUptoCard : Claim7 := { stood := { row := journalsCutUptoRow, standIns := [], harness := (true, "24894dfc381e5cb61106f2adc77ae20aa0abf715f67438940ee537316b16800c"), looks := true }, kinds := [], alts := [], laidByText := true, laidKinds := [.data, .pinned], laidTests := true, laidLooks := .later }
def JournalsCutUptoCardSaid : Prop := Claim7.holds Tryd.pinned (.plain (OpenSpec.upto journalsCutSpec)) journalsCutUptoCard

/-- THE SECOND FORM's CARD OF 'bucketlinelaw06.JournalsTurned'. -/
def journalsTurnedUptoCard : Claim7 := { stood := { row := journalsTurnedUptoRow, standIns := [], harness := (true, "24894dfc381e5cb61106f2adc77ae20aa0abf715f67438940ee537316b16800c"), looks := true }, kinds := [], alts := [], laidByText := true, laidKinds := [.data, .pinned], laidTests := true, laidLooks := .later }
def JournalsTurnedUptoCardSaid : Prop := Claim7.holds Tryd.pinned (.plain (OpenSpec.upto journalsTurnedSpec)) journalsTurnedUptoCard

/-- THE SECOND FORM's CARD OF 'bucketlinelaw06.JournalsSure'. -/
def journalsSureUptoCard : Claim7 := { stood := { row := journalsSureUptoRow, standIns := [], harness := (true, "24894dfc381e5cb61106f2adc77ae20aa0abf715f67438940ee537316b16800c"), looks := true }, kinds := [], alts := [], laidByText := true, laidKinds := [.data, .pinned], laidTests := true, laidLooks := .later }
def JournalsSureUptoCardSaid : Prop := Claim7.holds Tryd.pinned (.plain (OpenSpec.upto journalsSureSpec)) journalsSureUptoCard

/-- THE SECOND FORM's CARD OF 'bucketlinelaw05.FilesTwice'. -/
def filesTwiceUptoCard : Claim7 := { stood := { row := filesTwiceUptoRow, standIns := [], harness := (true, "24894dfc381e5cb61106f2adc77ae20aa0abf715f67438940ee537316b16800c"), looks := true }, kinds := [], alts := [], laidByText := true, laidKinds := [.data, .pinned], laidTests := true, laidLooks := .later }
def FilesTwiceUptoCardSaid : Prop := Claim7.holds Tryd.pinned (.plain (OpenSpec.upto filesTwiceSpec)) filesTwiceUptoCard

/-- THE SECOND FORM's CARD OF 'bucketlinelaw06.JournalsNames'. -/
def journalsNamesUptoCard : Claim7 := { stood := { row := journalsNamesUptoRow, standIns := [], harness := (true, "24894dfc381e5cb61106f2adc77ae20aa0abf715f67438940ee537316b16800c"), looks := true }, kinds := [], alts := [], laidByText := true, laidKinds := [.data, .pinned], laidTests := true, laidLooks := .later }
def JournalsNamesUptoCardSaid : Prop := Claim7.holds Tryd.pinned (.plain (OpenSpec.upto journalsNamesSpec)) journalsNamesUptoCard
end Rows
end Go.Proofs.YtmpgnnjhgjfgaaaDoor
