/-
  DERIVED. GIVEN WITH THE SEED: THE CARDS: each row of YtnkjhlpdcffalaaDoorRows.lean that lists a variable, with what it lists TIED to the program's text (the seventh form; the later family's looks); each row that meets fmt, with fmt's text TOLD by the authors' own Lean function (tested against real Go, not proved from fmt's source: count such statements apart). THE CARD IS WHAT COUNTS. Prove the row's statement (the work); the ties are given (YtnkjhlpdcffalaaDoorTie.lean); close each card by the builder's one call (the guide's Derived/Test/ToyasCard.lean, 'card_holds'). Laid BY PROGRAM, IN A SANDBOX (cutbox-door.mjs). By AI agents, Wed Nov 11 2026. No macro, syntax, notation, axiom, sorry.
-/
import Derived.Test.YtnkjhlpdcffalaaDoorRows
import GoSem.ClaimSeven
namespace Go.Proofs.YtnkjhlpdcffalaaDoor
namespace Rows

/-- THE TIED CARD OF 'withylaw2.Stuffs'. -/
def stuffsCard : Claim7 := { stood := { row := stuffsRow, standIns := [], harness := (true, "31887ca9495e70d6c9f079376a90e48d460313482e93f0635ddc78e69c6eb4a1"), looks := false }, kinds := [], alts := [], laidByText := true, laidKinds := [.data, .pinned], laidTests := true, laidLooks := .later }
def StuffsCardSaid : Prop := Claim7.holds Tryd.pinned (.plain (OpenSpec.ofChange stuffsSpec)) stuffsCard

/-- THE TIED CARD OF 'withylaw2.StuffBack'. -/
def stuffBackCard : Claim7 := { stood := { row := stuffBackRow, standIns := [], harness := (true, "31887ca9495e70d6c9f079376a90e48d460313482e93f0635ddc78e69c6eb4a1"), looks := false }, kinds := [], alts := [], laidByText := true, laidKinds := [.data, .pinned], laidTests := true, laidLooks := .later }
def StuffBackCardSaid : Prop := Claim7.holds Tryd.pinned (.plain (OpenSpec.ofChange stuffBackSpec)) stuffBackCard

/-- THE TIED CARD OF 'withylaw2.StuffJoins'. -/
def stuffJoinsCard : Claim7 := { stood := { row := stuffJoinsRow, standIns := [], harness := (true, "31887ca9495e70d6c9f079376a90e48d460313482e93f0635ddc78e69c6eb4a1"), looks := false }, kinds := [], alts := [], laidByText := true, laidKinds := [.data, .pinned], laidTests := true, laidLooks := .later }
def StuffJoinsCardSaid : Prop := Claim7.holds Tryd.pinned (.plain (OpenSpec.ofChange stuffJoinsSpec)) stuffJoinsCard

/-- THE TIED CARD OF 'withylaw2.StuffSizes'. -/
def stuffSizesCard : Claim7 := { stood := { row := stuffSizesRow, standIns := [], harness := (true, "31887ca9495e70d6c9f079376a90e48d460313482e93f0635ddc78e69c6eb4a1"), looks := false }, kinds := [], alts := [], laidByText := true, laidKinds := [.data, .pinned], laidTests := true, laidLooks := .later }
def StuffSizesCardSaid : Prop := Claim7.holds Tryd.pinned (.plain (OpenSpec.ofChange stuffSizesSpec)) stuffSizesCard

/-- THE TIED CARD OF 'withylaw2.StuffMarks'. -/
def stuffMarksCard : Claim7 := { stood := { row := stuffMarksRow, standIns := [], harness := (true, "31887ca9495e70d6c9f079376a90e48d460313482e93f0635ddc78e69c6eb4a1"), looks := false }, kinds := [], alts := [], laidByText := true, laidKinds := [.data, .pinned], laidTests := true, laidLooks := .later }
def StuffMarksCardSaid : Prop := Claim7.holds Tryd.pinned (.plain (OpenSpec.ofChange stuffMarksSpec)) stuffMarksCard

/-- THE TIED CARD OF 'withylaw2.StuffParts'. -/
def stuffPartsCard : Claim7 := { stood := { row := stuffPartsRow, standIns := [], harness := (true, "31887ca9495e70d6c9f079376a90e48d460313482e93f0635ddc78e69c6eb4a1"), looks := false }, kinds := [], alts := [], laidByText := true, laidKinds := [.data, .pinned], laidTests := true, laidLooks := .later }
def StuffPartsCardSaid : Prop := Claim7.holds Tryd.pinned (.plain (OpenSpec.ofChange stuffPartsSpec)) stuffPartsCard

/-- THE TIED CARD OF 'withylaw3.FrameBack'. -/
def frameBackCard : Claim7 := { stood := { row := frameBackRow, standIns := [], harness := (true, "31887ca9495e70d6c9f079376a90e48d460313482e93f0635ddc78e69c6eb4a1"), looks := false }, kinds := [], alts := [], laidByText := true, laidKinds := [.data, .pinned], laidTests := true, laidLooks := .later }
def FrameBackCardSaid : Prop := Claim7.holds Tryd.pinned (.plain (OpenSpec.ofChange frameBackSpec)) frameBackCard

/-- THE SECOND FORM's CARD OF 'withylaw2.Stuffs'. -/
def stuffsUptoCard : Claim7 := { stood := { row := stuffsUptoRow, standIns := [], harness := (true, "31887ca9495e70d6c9f079376a90e48d460313482e93f0635ddc78e69c6eb4a1"), looks := false }, kinds := [], alts := [], laidByText := true, laidKinds := [.data, .pinned], laidTests := true, laidLooks := .later }
def StuffsUptoCardSaid : Prop := Claim7.holds Tryd.pinned (.plain (OpenSpec.upto stuffsSpec)) stuffsUptoCard

/-- THE SECOND FORM's CARD OF 'withylaw2.StuffBack'. -/
def stuffBackUptoCard : Claim7 := { stood := { row := stuffBackUptoRow, standIns := [], harness := (true, "31887ca9495e70d6c9f079376a90e48d460313482e93f0635ddc78e69c6eb4a1"), looks := false }, kinds := [], alts := [], laidByText := true, laidKinds := [.data, .pinned], laidTests := true, laidLooks := .later }
def StuffBackUptoCardSaid : Prop := Claim7.holds Tryd.pinned (.plain (OpenSpec.upto stuffBackSpec)) stuffBackUptoCard

/-- THE SECOND FORM's CARD OF 'withylaw2.StuffJoins'. -/
def stuffJoinsUptoCard : Claim7 := { stood := { row := stuffJoinsUptoRow, standIns := [], harness := (true, "31887ca9495e70d6c9f079376a90e48d460313482e93f0635ddc78e69c6eb4a1"), looks := false }, kinds := [], alts := [], laidByText := true, laidKinds := [.data, .pinned], laidTests := true, laidLooks := .later }
def StuffJoinsUptoCardSaid : Prop := Claim7.holds Tryd.pinned (.plain (OpenSpec.upto stuffJoinsSpec)) stuffJoinsUptoCard

/-- THE SECOND FORM's CARD OF 'withylaw2.StuffSizes'. -/
def stuffSizesUptoCard : Claim7 := { stood := { row := stuffSizesUptoRow, standIns := [], harness := (true, "31887ca9495e70d6c9f079376a90e48d460313482e93f0635ddc78e69c6eb4a1"), looks := false }, kinds := [], alts := [], laidByText := true, laidKinds := [.data, .pinned], laidTests := true, laidLooks := .later }
def StuffSizesUptoCardSaid : Prop := Claim7.holds Tryd.pinned (.plain (OpenSpec.upto stuffSizesSpec)) stuffSizesUptoCard

/-- THE SECOND FORM's CARD OF 'withylaw2.StuffMarks'. -/
def stuffMarksUptoCard : Claim7 := { stood := { row := stuffMarksUptoRow, standIns := [], harness := (true, "31887ca9495e70d6c9f079376a90e48d460313482e93f0635ddc78e69c6eb4a1"), looks := false }, kinds := [], alts := [], laidByText := true, laidKinds := [.data, .pinned], laidTests := true, laidLooks := .later }
def StuffMarksUptoCardSaid : Prop := Claim7.holds Tryd.pinned (.plain (OpenSpec.upto stuffMarksSpec)) stuffMarksUptoCard

/-- THE SECOND FORM's CARD OF 'withylaw2.StuffParts'. -/
def stuffPartsUptoCard : Claim7 := { stood := { row := stuffPartsUptoRow, standIns := [], harness := (true, "31887ca9495e70d6c9f079376a90e48d460313482e93f0635ddc78e69c6eb4a1"), looks := false }, kinds := [], alts := [], laidByText := true, laidKinds := [.data, .pinned], laidTests := true, laidLooks := .later }
def StuffPartsUptoCardSaid : Prop := Claim7.holds Tryd.pinned (.plain (OpenSpec.upto stuffPartsSpec)) stuffPartsUptoCard

/-- THE SECOND FORM's CARD OF 'withylaw3.FrameBack'. -/
def frameBackUptoCard : Claim7 := { stood := { row := frameBackUptoRow, standIns := [], harness := (true, "31887ca9495e70d6c9f079376a90e48d460313482e93f0635ddc78e69c6eb4a1"), looks := false }, kinds := [], alts := [], laidByText := true, laidKinds := [.data, .pinned], laidTests := true, laidLooks := .later }
def FrameBackUptoCardSaid : Prop := Claim7.holds Tryd.pinned (.plain (OpenSpec.upto frameBackSpec)) frameBackUptoCard
end Rows
end Go.Proofs.YtnkjhlpdcffalaaDoor
