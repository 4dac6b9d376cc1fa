/-
  DERIVED. GIVEN WITH THE SEED: THE CARDS: each row of YtlpibobpfafooaaGreatDoorRows.lean that lists a variable, with what it lists TIED to the program's text (the seventh form; the later family's looks); each row that meets fmt, with fmt's text TOLD by the authors' own Lean function (tested against real Go, not proved from fmt's source: count such statements apart). THE CARD IS WHAT COUNTS. Prove the row's statement (the work); the ties are given (YtlpibobpfafooaaGreatDoorTie.lean); close each card by the builder's one call (the guide's Derived/Test/ToyasCard.lean, 'card_holds'). Laid BY PROGRAM, IN A SANDBOX (cutbox-door.mjs). By AI agents, Wed Nov 11 2026. No macro, syntax, notation, axiom, sorry.
-/
import Derived.Test.YtlpibobpfafooaaGreatDoorRows
import GoSem.ClaimSeven
namespace Go.Proofs.YtlpibobpfafooaaGreatDoor
namespace Rows

/-- THE TIED CARD OF 'withylaw28.ConsoleWrong'. -/
def consoleWrongCard : Claim7 := { stood := { row := consoleWrongRow, standIns := [], harness := (true, "cf87d2721814dcb7b1b3cefbcaae68456bc156e20db373e92f35581ac4873bd8"), looks := true }, kinds := [], alts := [], laidByText := true, laidKinds := [.data, .data, .data, .data, .sentinel, .sentinel, .pinned], laidTests := true, laidLooks := .later }
def ConsoleWrongCardSaid : Prop := Claim7.holds Tryz.pinned (.plain (OpenSpec.ofChange consoleWrongSpec)) consoleWrongCard

/-- THE TIED CARD OF 'withylaw28.ConsoleMany'. -/
def consoleManyCard : Claim7 := { stood := { row := consoleManyRow, standIns := [], harness := (true, "cf87d2721814dcb7b1b3cefbcaae68456bc156e20db373e92f35581ac4873bd8"), looks := true }, kinds := [], alts := [], laidByText := true, laidKinds := [.data, .data, .data, .data, .sentinel, .sentinel, .pinned], laidTests := true, laidLooks := .later }
def ConsoleManyCardSaid : Prop := Claim7.holds Tryz.pinned (.plain (OpenSpec.ofChange consoleManySpec)) consoleManyCard

/-- THE TIED CARD OF 'withylaw28.ConsoleRuns'. -/
def consoleRunsCard : Claim7 := { stood := { row := consoleRunsRow, standIns := [], harness := (true, "cf87d2721814dcb7b1b3cefbcaae68456bc156e20db373e92f35581ac4873bd8"), looks := true }, kinds := [], alts := [], laidByText := true, laidKinds := [.data, .data, .data, .data, .sentinel, .sentinel, .pinned], laidTests := true, laidLooks := .later }
def ConsoleRunsCardSaid : Prop := Claim7.holds Tryz.pinned (.plain (OpenSpec.ofChange consoleRunsSpec)) consoleRunsCard

/-- THE TIED CARD OF 'withylaw28.ConsoleBegins'. -/
def consoleBeginsCard : Claim7 := { stood := { row := consoleBeginsRow, standIns := [], harness := (true, "cf87d2721814dcb7b1b3cefbcaae68456bc156e20db373e92f35581ac4873bd8"), looks := true }, kinds := [], alts := [], laidByText := true, laidKinds := [.data, .data, .data, .data, .sentinel, .sentinel, .pinned], laidTests := true, laidLooks := .later }
def ConsoleBeginsCardSaid : Prop := Claim7.holds Tryz.pinned (.plain (OpenSpec.ofChange consoleBeginsSpec)) consoleBeginsCard

/-- THE TIED CARD OF 'withylaw28.ConsoleFrames'. -/
def consoleFramesCard : Claim7 := { stood := { row := consoleFramesRow, standIns := [], harness := (true, "cf87d2721814dcb7b1b3cefbcaae68456bc156e20db373e92f35581ac4873bd8"), looks := true }, kinds := [], alts := [], laidByText := true, laidKinds := [.data, .data, .data, .data, .sentinel, .sentinel, .pinned], laidTests := true, laidLooks := .later }
def ConsoleFramesCardSaid : Prop := Claim7.holds Tryz.pinned (.plain (OpenSpec.ofChange consoleFramesSpec)) consoleFramesCard

/-- THE TIED CARD OF 'withylaw28.ConsoleBlanks'. -/
def consoleBlanksCard : Claim7 := { stood := { row := consoleBlanksRow, standIns := [], harness := (true, "cf87d2721814dcb7b1b3cefbcaae68456bc156e20db373e92f35581ac4873bd8"), looks := true }, kinds := [], alts := [], laidByText := true, laidKinds := [.data, .data, .data, .data, .sentinel, .sentinel, .pinned], laidTests := true, laidLooks := .later }
def ConsoleBlanksCardSaid : Prop := Claim7.holds Tryz.pinned (.plain (OpenSpec.ofChange consoleBlanksSpec)) consoleBlanksCard

/-- THE TIED CARD OF 'withylaw28.ConsoleSums'. -/
def consoleSumsCard : Claim7 := { stood := { row := consoleSumsRow, standIns := [], harness := (true, "cf87d2721814dcb7b1b3cefbcaae68456bc156e20db373e92f35581ac4873bd8"), looks := true }, kinds := [], alts := [], laidByText := true, laidKinds := [.data, .data, .data, .data, .sentinel, .sentinel, .pinned], laidTests := true, laidLooks := .later }
def ConsoleSumsCardSaid : Prop := Claim7.holds Tryz.pinned (.plain (OpenSpec.ofChange consoleSumsSpec)) consoleSumsCard

/-- THE TIED CARD OF 'withylaw28.ConsoleCounts'. -/
def consoleCountsCard : Claim7 := { stood := { row := consoleCountsRow, standIns := [], harness := (true, "cf87d2721814dcb7b1b3cefbcaae68456bc156e20db373e92f35581ac4873bd8"), looks := true }, kinds := [], alts := [], laidByText := true, laidKinds := [.data, .data, .data, .data, .sentinel, .sentinel, .pinned], laidTests := true, laidLooks := .later }
def ConsoleCountsCardSaid : Prop := Claim7.holds Tryz.pinned (.plain (OpenSpec.ofChange consoleCountsSpec)) consoleCountsCard

/-- THE SECOND FORM's CARD OF 'withylaw28.ConsoleWrong'. -/
def consoleWrongUptoCard : Claim7 := { stood := { row := consoleWrongUptoRow, standIns := [], harness := (true, "cf87d2721814dcb7b1b3cefbcaae68456bc156e20db373e92f35581ac4873bd8"), looks := true }, kinds := [], alts := [], laidByText := true, laidKinds := [.data, .data, .data, .data, .sentinel, .sentinel, .pinned], laidTests := true, laidLooks := .later }
def ConsoleWrongUptoCardSaid : Prop := Claim7.holds Tryz.pinned (.plain (OpenSpec.upto consoleWrongSpec)) consoleWrongUptoCard

/-- THE SECOND FORM's CARD OF 'withylaw28.ConsoleMany'. -/
def consoleManyUptoCard : Claim7 := { stood := { row := consoleManyUptoRow, standIns := [], harness := (true, "cf87d2721814dcb7b1b3cefbcaae68456bc156e20db373e92f35581ac4873bd8"), looks := true }, kinds := [], alts := [], laidByText := true, laidKinds := [.data, .data, .data, .data, .sentinel, .sentinel, .pinned], laidTests := true, laidLooks := .later }
def ConsoleManyUptoCardSaid : Prop := Claim7.holds Tryz.pinned (.plain (OpenSpec.upto consoleManySpec)) consoleManyUptoCard

/-- THE SECOND FORM's CARD OF 'withylaw28.ConsoleRuns'. -/
def consoleRunsUptoCard : Claim7 := { stood := { row := consoleRunsUptoRow, standIns := [], harness := (true, "cf87d2721814dcb7b1b3cefbcaae68456bc156e20db373e92f35581ac4873bd8"), looks := true }, kinds := [], alts := [], laidByText := true, laidKinds := [.data, .data, .data, .data, .sentinel, .sentinel, .pinned], laidTests := true, laidLooks := .later }
def ConsoleRunsUptoCardSaid : Prop := Claim7.holds Tryz.pinned (.plain (OpenSpec.upto consoleRunsSpec)) consoleRunsUptoCard

/-- THE SECOND FORM's CARD OF 'withylaw28.ConsoleBegins'. -/
def consoleBeginsUptoCard : Claim7 := { stood := { row := consoleBeginsUptoRow, standIns := [], harness := (true, "cf87d2721814dcb7b1b3cefbcaae68456bc156e20db373e92f35581ac4873bd8"), looks := true }, kinds := [], alts := [], laidByText := true, laidKinds := [.data, .data, .data, .data, .sentinel, .sentinel, .pinned], laidTests := true, laidLooks := .later }
def ConsoleBeginsUptoCardSaid : Prop := Claim7.holds Tryz.pinned (.plain (OpenSpec.upto consoleBeginsSpec)) consoleBeginsUptoCard

/-- THE SECOND FORM's CARD OF 'withylaw28.ConsoleFrames'. -/
def consoleFramesUptoCard : Claim7 := { stood := { row := consoleFramesUptoRow, standIns := [], harness := (true, "cf87d2721814dcb7b1b3cefbcaae68456bc156e20db373e92f35581ac4873bd8"), looks := true }, kinds := [], alts := [], laidByText := true, laidKinds := [.data, .data, .data, .data, .sentinel, .sentinel, .pinned], laidTests := true, laidLooks := .later }
def ConsoleFramesUptoCardSaid : Prop := Claim7.holds Tryz.pinned (.plain (OpenSpec.upto consoleFramesSpec)) consoleFramesUptoCard

/-- THE SECOND FORM's CARD OF 'withylaw28.ConsoleBlanks'. -/
def consoleBlanksUptoCard : Claim7 := { stood := { row := consoleBlanksUptoRow, standIns := [], harness := (true, "cf87d2721814dcb7b1b3cefbcaae68456bc156e20db373e92f35581ac4873bd8"), looks := true }, kinds := [], alts := [], laidByText := true, laidKinds := [.data, .data, .data, .data, .sentinel, .sentinel, .pinned], laidTests := true, laidLooks := .later }
def ConsoleBlanksUptoCardSaid : Prop := Claim7.holds Tryz.pinned (.plain (OpenSpec.upto consoleBlanksSpec)) consoleBlanksUptoCard

/-- THE SECOND FORM's CARD OF 'withylaw28.ConsoleSums'. -/
def consoleSumsUptoCard : Claim7 := { stood := { row := consoleSumsUptoRow, standIns := [], harness := (true, "cf87d2721814dcb7b1b3cefbcaae68456bc156e20db373e92f35581ac4873bd8"), looks := true }, kinds := [], alts := [], laidByText := true, laidKinds := [.data, .data, .data, .data, .sentinel, .sentinel, .pinned], laidTests := true, laidLooks := .later }
def ConsoleSumsUptoCardSaid : Prop := Claim7.holds Tryz.pinned (.plain (OpenSpec.upto consoleSumsSpec)) consoleSumsUptoCard

/-- THE SECOND FORM's CARD OF 'withylaw28.ConsoleCounts'. -/
def consoleCountsUptoCard : Claim7 := { stood := { row := consoleCountsUptoRow, standIns := [], harness := (true, "cf87d2721814dcb7b1b3cefbcaae68456bc156e20db373e92f35581ac4873bd8"), looks := true }, kinds := [], alts := [], laidByText := true, laidKinds := [.data, .data, .data, .data, .sentinel, .sentinel, .pinned], laidTests := true, laidLooks := .later }
def ConsoleCountsUptoCardSaid : Prop := Claim7.holds Tryz.pinned (.plain (OpenSpec.upto consoleCountsSpec)) consoleCountsUptoCard
end Rows
end Go.Proofs.YtlpibobpfafooaaGreatDoor
