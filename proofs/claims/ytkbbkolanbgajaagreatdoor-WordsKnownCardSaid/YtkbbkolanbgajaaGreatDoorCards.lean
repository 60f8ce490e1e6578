/-
  DERIVED. GIVEN WITH THE SEED: THE CARDS: each row of YtkbbkolanbgajaaGreatDoorRows.lean that lists a variable, with what it lists TIED to the program's text (the seventh form; the later family's looks); each row that meets fmt, with fmt's text TOLD by the authors' own Lean function (tested against real Go, not proved from fmt's source: count such statements apart). THE CARD IS WHAT COUNTS. Prove the row's statement (the work); the ties are given (YtkbbkolanbgajaaGreatDoorTie.lean); close each card by the builder's one call (the guide's Derived/Test/ToyasCard.lean, 'card_holds'). Laid BY PROGRAM, IN A SANDBOX (cutbox-door.mjs). By AI agents, Wed Nov 11 2026. No macro, syntax, notation, axiom, sorry.
-/
import Derived.Test.YtkbbkolanbgajaaGreatDoorRows
import GoSem.ClaimSeven
namespace Go.Proofs.YtkbbkolanbgajaaGreatDoor
namespace Rows

/-- THE TIED CARD OF 'shunterlaw01.WordsKnown'. -/
def wordsKnownCard : Claim7 := { stood := { row := wordsKnownRow, standIns := [], harness := (true, "2033dca9d3ea9115ec4e933d8ab383e3957bc5905b7de031a5772ee97e32a1ce"), looks := true }, kinds := [], alts := [], laidByText := true, laidKinds := [.data, .data, .data, .data, .sentinel, .sentinel, .data, .pinned], laidTests := true, laidLooks := .later }
def WordsKnownCardSaid : Prop := Claim7.holds Tryz.pinned (.plain (OpenSpec.ofChange wordsKnownSpec)) wordsKnownCard

/-- THE TIED CARD OF 'shunterlaw01.WordsInverse'. -/
def wordsInverseCard : Claim7 := { stood := { row := wordsInverseRow, standIns := [], harness := (true, "2033dca9d3ea9115ec4e933d8ab383e3957bc5905b7de031a5772ee97e32a1ce"), looks := true }, kinds := [], alts := [], laidByText := true, laidKinds := [.data, .data, .data, .data, .sentinel, .sentinel, .data, .pinned], laidTests := true, laidLooks := .later }
def WordsInverseCardSaid : Prop := Claim7.holds Tryz.pinned (.plain (OpenSpec.ofChange wordsInverseSpec)) wordsInverseCard

/-- THE TIED CARD OF 'shunterlaw02.ConfigTexts'. -/
def configTextsCard : Claim7 := { stood := { row := configTextsRow, standIns := [], harness := (true, "2033dca9d3ea9115ec4e933d8ab383e3957bc5905b7de031a5772ee97e32a1ce"), looks := true }, kinds := [], alts := [], laidByText := true, laidKinds := [.data, .data, .data, .data, .sentinel, .sentinel, .pinned], laidTests := true, laidLooks := .later }
def ConfigTextsCardSaid : Prop := Claim7.holds Tryz.pinned (.plain (OpenSpec.ofChange configTextsSpec)) configTextsCard

/-- THE TIED CARD OF 'shunterlaw01.WordsLists'. -/
def wordsListsCard : Claim7 := { stood := { row := wordsListsRow, standIns := [], harness := (true, "2033dca9d3ea9115ec4e933d8ab383e3957bc5905b7de031a5772ee97e32a1ce"), looks := true }, kinds := [], alts := [], laidByText := true, laidKinds := [.data, .data, .data, .data, .sentinel, .sentinel, .data, .pinned], laidTests := true, laidLooks := .later }
def WordsListsCardSaid : Prop := Claim7.holds Tryz.pinned (.plain (OpenSpec.ofChange wordsListsSpec)) wordsListsCard

/-- THE SECOND FORM's CARD OF 'shunterlaw01.WordsKnown'. -/
def wordsKnownUptoCard : Claim7 := { stood := { row := wordsKnownUptoRow, standIns := [], harness := (true, "2033dca9d3ea9115ec4e933d8ab383e3957bc5905b7de031a5772ee97e32a1ce"), looks := true }, kinds := [], alts := [], laidByText := true, laidKinds := [.data, .data, .data, .data, .sentinel, .sentinel, .data, .pinned], laidTests := true, laidLooks := .later }
def WordsKnownUptoCardSaid : Prop := Claim7.holds Tryz.pinned (.plain (OpenSpec.upto wordsKnownSpec)) wordsKnownUptoCard

/-- THE SECOND FORM's CARD OF 'shunterlaw01.WordsInverse'. -/
def wordsInverseUptoCard : Claim7 := { stood := { row := wordsInverseUptoRow, standIns := [], harness := (true, "2033dca9d3ea9115ec4e933d8ab383e3957bc5905b7de031a5772ee97e32a1ce"), looks := true }, kinds := [], alts := [], laidByText := true, laidKinds := [.data, .data, .data, .data, .sentinel, .sentinel, .data, .pinned], laidTests := true, laidLooks := .later }
def WordsInverseUptoCardSaid : Prop := Claim7.holds Tryz.pinned (.plain (OpenSpec.upto wordsInverseSpec)) wordsInverseUptoCard

/-- THE SECOND FORM's CARD OF 'shunterlaw02.ConfigTexts'. -/
def configTextsUptoCard : Claim7 := { stood := { row := configTextsUptoRow, standIns := [], harness := (true, "2033dca9d3ea9115ec4e933d8ab383e3957bc5905b7de031a5772ee97e32a1ce"), looks := true }, kinds := [], alts := [], laidByText := true, laidKinds := [.data, .data, .data, .data, .sentinel, .sentinel, .pinned], laidTests := true, laidLooks := .later }
def ConfigTextsUptoCardSaid : Prop := Claim7.holds Tryz.pinned (.plain (OpenSpec.upto configTextsSpec)) configTextsUptoCard

/-- THE SECOND FORM's CARD OF 'shunterlaw01.WordsLists'. -/
def wordsListsUptoCard : Claim7 := { stood := { row := wordsListsUptoRow, standIns := [], harness := (true, "2033dca9d3ea9115ec4e933d8ab383e3957bc5905b7de031a5772ee97e32a1ce"), looks := true }, kinds := [], alts := [], laidByText := true, laidKinds := [.data, .data, .data, .data, .sentinel, .sentinel, .data, .pinned], laidTests := true, laidLooks := .later }
def WordsListsUptoCardSaid : Prop := Claim7.holds Tryz.pinned (.plain (OpenSpec.upto wordsListsSpec)) wordsListsUptoCard
end Rows
end Go.Proofs.YtkbbkolanbgajaaGreatDoor
