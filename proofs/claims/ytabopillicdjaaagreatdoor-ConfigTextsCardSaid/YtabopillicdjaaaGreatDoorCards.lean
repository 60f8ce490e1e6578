/-
  DERIVED. GIVEN WITH THE SEED: THE CARDS: each row of YtabopillicdjaaaGreatDoorRows.lean that lists a variable, with what it lists TIED to the program's text (the seventh form; the later family's looks); each row that meets fmt, with fmt's text TOLD by the authors' own Lean function (tested against real Go, not proved from fmt's source: count such statements apart). THE CARD IS WHAT COUNTS. Prove the row's statement (the work); the ties are given (YtabopillicdjaaaGreatDoorTie.lean); close each card by the builder's one call (the guide's Derived/Test/ToyasCard.lean, 'card_holds'). Laid BY PROGRAM, IN A SANDBOX (cutbox-door.mjs). By AI agents, Wed Nov 11 2026. No macro, syntax, notation, axiom, sorry.
-/
import Derived.Test.YtabopillicdjaaaGreatDoorRows
import GoSem.ClaimSeven
namespace Go.Proofs.YtabopillicdjaaaGreatDoor
namespace Rows

/-- THE TIED CARD OF 'shunterlaw01.WordsInverse'. -/
def wordsInverseCard : Claim7 := { stood := { row := wordsInverseRow, standIns := [], harness := (true, "5c5c06cd20bf30c0f08d53e2a65d8309434b2040cd99bd591a2f442e23d3d825"), looks := true }, kinds := [], alts := [], laidByText := true, laidKinds := [.data, .data, .data, .data, .sentinel, .sentinel, .data, .pinned], laidTests := true, laidLooks := .later }
def WordsInverseCardSaid : Prop := Claim7.holds Tryz.pinned (.plain (OpenSpec.ofChange wordsInverseSpec)) wordsInverseCard

/-- THE TIED CARD OF 'shunterlaw02.ConfigTexts'. -/
def configTextsCard : Claim7 := { stood := { row := configTextsRow, standIns := [], harness := (true, "5c5c06cd20bf30c0f08d53e2a65d8309434b2040cd99bd591a2f442e23d3d825"), looks := true }, kinds := [], alts := [], laidByText := true, laidKinds := [.data, .data, .data, .data, .sentinel, .sentinel, .pinned], laidTests := true, laidLooks := .later }
def ConfigTextsCardSaid : Prop := Claim7.holds Tryz.pinned (.plain (OpenSpec.ofChange configTextsSpec)) configTextsCard

/-- THE SECOND FORM's CARD OF 'shunterlaw01.WordsInverse'. -/
def wordsInverseUptoCard : Claim7 := { stood := { row := wordsInverseUptoRow, standIns := [], harness := (true, "5c5c06cd20bf30c0f08d53e2a65d8309434b2040cd99bd591a2f442e23d3d825"), looks := true }, kinds := [], alts := [], laidByText := true, laidKinds := [.data, .data, .data, .data, .sentinel, .sentinel, .data, .pinned], laidTests := true, laidLooks := .later }
def WordsInverseUptoCardSaid : Prop := Claim7.holds Tryz.pinned (.plain (OpenSpec.upto wordsInverseSpec)) wordsInverseUptoCard

/-- THE SECOND FORM's CARD OF 'shunterlaw02.ConfigTexts'. -/
def configTextsUptoCard : Claim7 := { stood := { row := configTextsUptoRow, standIns := [], harness := (true, "5c5c06cd20bf30c0f08d53e2a65d8309434b2040cd99bd591a2f442e23d3d825"), looks := true }, kinds := [], alts := [], laidByText := true, laidKinds := [.data, .data, .data, .data, .sentinel, .sentinel, .pinned], laidTests := true, laidLooks := .later }
def ConfigTextsUptoCardSaid : Prop := Claim7.holds Tryz.pinned (.plain (OpenSpec.upto configTextsSpec)) configTextsUptoCard
end Rows
end Go.Proofs.YtabopillicdjaaaGreatDoor
