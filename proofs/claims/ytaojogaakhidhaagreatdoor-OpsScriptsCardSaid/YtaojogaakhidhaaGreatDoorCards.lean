/-
  DERIVED. GIVEN WITH THE SEED: THE CARDS: each row of YtaojogaakhidhaaGreatDoorRows.lean that lists a variable, with what it lists TIED to the program's text (the seventh form; the later family's looks); each row that meets fmt, with fmt's text TOLD by the authors' own Lean function (tested against real Go, not proved from fmt's source: count such statements apart). THE CARD IS WHAT COUNTS. Prove the row's statement (the work); the ties are given (YtaojogaakhidhaaGreatDoorTie.lean); close each card by the builder's one call (the guide's Derived/Test/ToyasCard.lean, 'card_holds'). Laid BY PROGRAM, IN A SANDBOX (cutbox-door.mjs). By AI agents, Wed Nov 11 2026. No macro, syntax, notation, axiom, sorry.
-/
import Derived.Test.YtaojogaakhidhaaGreatDoorRows
import GoSem.ClaimSeven
namespace Go.Proofs.YtaojogaakhidhaaGreatDoor
namespace Rows

/-- THE TIED CARD OF 'shunterlaw28.OpsLines'. -/
def opsLinesCard : Claim7 := { stood := { row := opsLinesRow, standIns := [], harness := (true, "9118ed1101ecab664ac7aa07dcf48769ad969abf091fbc7f3588a6ccff4943bc"), looks := true }, kinds := [], alts := [], laidByText := true, laidKinds := [.data, .data, .data, .data, .sentinel, .sentinel, .data, .pinned], laidTests := true, laidLooks := .later }
def OpsLinesCardSaid : Prop := Claim7.holds Tryz.pinned (.plain (OpenSpec.ofChange opsLinesSpec)) opsLinesCard

/-- THE TIED CARD OF 'shunterlaw28.OpsTexts'. -/
def opsTextsCard : Claim7 := { stood := { row := opsTextsRow, standIns := [], harness := (true, "9118ed1101ecab664ac7aa07dcf48769ad969abf091fbc7f3588a6ccff4943bc"), looks := true }, kinds := [], alts := [], laidByText := true, laidKinds := [.data, .data, .data, .data, .sentinel, .sentinel, .data, .pinned], laidTests := true, laidLooks := .later }
def OpsTextsCardSaid : Prop := Claim7.holds Tryz.pinned (.plain (OpenSpec.ofChange opsTextsSpec)) opsTextsCard

/-- THE TIED CARD OF 'shunterlaw28.OpsScripts'. -/
def opsScriptsCard : Claim7 := { stood := { row := opsScriptsRow, standIns := [], harness := (true, "9118ed1101ecab664ac7aa07dcf48769ad969abf091fbc7f3588a6ccff4943bc"), looks := true }, kinds := [], alts := [], laidByText := true, laidKinds := [.data, .data, .data, .data, .sentinel, .sentinel, .data, .pinned], laidTests := true, laidLooks := .later }
def OpsScriptsCardSaid : Prop := Claim7.holds Tryz.pinned (.plain (OpenSpec.ofChange opsScriptsSpec)) opsScriptsCard

/-- THE SECOND FORM's CARD OF 'shunterlaw28.OpsLines'. -/
def opsLinesUptoCard : Claim7 := { stood := { row := opsLinesUptoRow, standIns := [], harness := (true, "9118ed1101ecab664ac7aa07dcf48769ad969abf091fbc7f3588a6ccff4943bc"), looks := true }, kinds := [], alts := [], laidByText := true, laidKinds := [.data, .data, .data, .data, .sentinel, .sentinel, .data, .pinned], laidTests := true, laidLooks := .later }
def OpsLinesUptoCardSaid : Prop := Claim7.holds Tryz.pinned (.plain (OpenSpec.upto opsLinesSpec)) opsLinesUptoCard

/-- THE SECOND FORM's CARD OF 'shunterlaw28.OpsTexts'. -/
def opsTextsUptoCard : Claim7 := { stood := { row := opsTextsUptoRow, standIns := [], harness := (true, "9118ed1101ecab664ac7aa07dcf48769ad969abf091fbc7f3588a6ccff4943bc"), looks := true }, kinds := [], alts := [], laidByText := true, laidKinds := [.data, .data, .data, .data, .sentinel, .sentinel, .data, .pinned], laidTests := true, laidLooks := .later }
def OpsTextsUptoCardSaid : Prop := Claim7.holds Tryz.pinned (.plain (OpenSpec.upto opsTextsSpec)) opsTextsUptoCard

/-- THE SECOND FORM's CARD OF 'shunterlaw28.OpsScripts'. -/
def opsScriptsUptoCard : Claim7 := { stood := { row := opsScriptsUptoRow, standIns := [], harness := (true, "9118ed1101ecab664ac7aa07dcf48769ad969abf091fbc7f3588a6ccff4943bc"), looks := true }, kinds := [], alts := [], laidByText := true, laidKinds := [.data, .data, .data, .data, .sentinel, .sentinel, .data, .pinned], laidTests := true, laidLooks := .later }
def OpsScriptsUptoCardSaid : Prop := Claim7.holds Tryz.pinned (.plain (OpenSpec.upto opsScriptsSpec)) opsScriptsUptoCard
end Rows
end Go.Proofs.YtaojogaakhidhaaGreatDoor
