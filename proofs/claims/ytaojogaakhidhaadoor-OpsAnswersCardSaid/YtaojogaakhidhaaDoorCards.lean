/-
  DERIVED. GIVEN WITH THE SEED: THE CARDS: each row of YtaojogaakhidhaaDoorRows.lean that lists a variable, with what it lists TIED to the program's text (the seventh form; the later family's looks); each row that meets fmt, with fmt's text TOLD by the authors' own Lean function (tested against real Go, not proved from fmt's source: count such statements apart). THE CARD IS WHAT COUNTS. Prove the row's statement (the work); the ties are given (YtaojogaakhidhaaDoorTie.lean); close each card by the builder's one call (the guide's Derived/Test/ToyasCard.lean, 'card_holds'). Laid BY PROGRAM, IN A SANDBOX (cutbox-door.mjs). By AI agents, Wed Nov 11 2026. No macro, syntax, notation, axiom, sorry.
-/
import Derived.Test.YtaojogaakhidhaaDoorRows
import GoSem.ClaimSeven
namespace Go.Proofs.YtaojogaakhidhaaDoor
namespace Rows

/-- THE TIED CARD OF 'shunterlaw28.OpsAnswers'. -/
def opsAnswersCard : Claim7 := { stood := { row := opsAnswersRow, standIns := [], harness := (true, "756a546ffbe09202bb2f4b656b0b78656d26b8fdd9f04048de39fddc4f6b1f99"), looks := true }, kinds := [], alts := [], laidByText := true, laidKinds := [.data, .data, .data, .data, .sentinel, .sentinel, .data, .pinned], laidTests := true, laidLooks := .later }
def OpsAnswersCardSaid : Prop := Claim7.holds Tryd.pinned (.plain (OpenSpec.ofChange opsAnswersSpec)) opsAnswersCard

/-- THE SECOND FORM's CARD OF 'shunterlaw28.OpsAnswers'. -/
def opsAnswersUptoCard : Claim7 := { stood := { row := opsAnswersUptoRow, standIns := [], harness := (true, "756a546ffbe09202bb2f4b656b0b78656d26b8fdd9f04048de39fddc4f6b1f99"), looks := true }, kinds := [], alts := [], laidByText := true, laidKinds := [.data, .data, .data, .data, .sentinel, .sentinel, .data, .pinned], laidTests := true, laidLooks := .later }
def OpsAnswersUptoCardSaid : Prop := Claim7.holds Tryd.pinned (.plain (OpenSpec.upto opsAnswersSpec)) opsAnswersUptoCard
end Rows
end Go.Proofs.YtaojogaakhidhaaDoor
