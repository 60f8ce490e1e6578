/-
  DERIVED. GIVEN WITH THE SEED: THE CARDS: each row of YtbfnkdbibgljhaaDoorRows.lean that lists a variable, with what it lists TIED to the program's text (the seventh form; the later family's looks); each row that meets fmt, with fmt's text TOLD by the authors' own Lean function (tested against real Go, not proved from fmt's source: count such statements apart). THE CARD IS WHAT COUNTS. Prove the row's statement (the work); the ties are given (YtbfnkdbibgljhaaDoorTie.lean); close each card by the builder's one call (the guide's Derived/Test/ToyasCard.lean, 'card_holds'). Laid BY PROGRAM, IN A SANDBOX (cutbox-door.mjs). By AI agents, Wed Nov 11 2026. No macro, syntax, notation, axiom, sorry.
-/
import Derived.Test.YtbfnkdbibgljhaaDoorRows
import GoSem.ClaimSeven
namespace Go.Proofs.YtbfnkdbibgljhaaDoor
namespace Rows

/-- THE TIED CARD OF 'shunterlaw28.OpsAnswers'. -/
def opsAnswersCard : Claim7 := { stood := { row := opsAnswersRow, standIns := [], harness := (true, "6845796f647eb0dfceeecd427c22acf3fec5a026ba895aad6875e0ea6ce95274"), looks := true }, kinds := [], alts := [], laidByText := true, laidKinds := [.data, .data, .data, .data, .sentinel, .sentinel, .data, .pinned], laidTests := true, laidLooks := .later }
def OpsAnswersCardSaid : Prop := Claim7.holds Tryd.pinned (.plain (OpenSpec.ofChange opsAnswersSpec)) opsAnswersCard

/-- THE TIED CARD OF 'shunterlaw28.OpsKnown'. -/
def opsKnownCard : Claim7 := { stood := { row := opsKnownRow, standIns := [], harness := (true, "6845796f647eb0dfceeecd427c22acf3fec5a026ba895aad6875e0ea6ce95274"), looks := true }, kinds := [], alts := [], laidByText := true, laidKinds := [.data, .data, .data, .data, .sentinel, .sentinel, .data, .pinned], laidTests := true, laidLooks := .later }
def OpsKnownCardSaid : Prop := Claim7.holds Tryd.pinned (.plain (OpenSpec.ofChange opsKnownSpec)) opsKnownCard

/-- THE TIED CARD OF 'shunterlaw28.OpsCalls'. -/
def opsCallsCard : Claim7 := { stood := { row := opsCallsRow, standIns := [], harness := (true, "6845796f647eb0dfceeecd427c22acf3fec5a026ba895aad6875e0ea6ce95274"), looks := true }, kinds := [], alts := [], laidByText := true, laidKinds := [.data, .data, .data, .data, .sentinel, .sentinel, .data, .pinned], laidTests := true, laidLooks := .later }
def OpsCallsCardSaid : Prop := Claim7.holds Tryd.pinned (.plain (OpenSpec.ofChange opsCallsSpec)) opsCallsCard

/-- THE TIED CARD OF 'shunterlaw28.OpsBack'. -/
def opsBackCard : Claim7 := { stood := { row := opsBackRow, standIns := [], harness := (true, "6845796f647eb0dfceeecd427c22acf3fec5a026ba895aad6875e0ea6ce95274"), looks := true }, kinds := [], alts := [], laidByText := true, laidKinds := [.data, .data, .data, .data, .sentinel, .sentinel, .data, .pinned], laidTests := true, laidLooks := .later }
def OpsBackCardSaid : Prop := Claim7.holds Tryd.pinned (.plain (OpenSpec.ofChange opsBackSpec)) opsBackCard

/-- THE TIED CARD OF 'shunterlaw28.OpsApart'. -/
def opsApartCard : Claim7 := { stood := { row := opsApartRow, standIns := [], harness := (true, "6845796f647eb0dfceeecd427c22acf3fec5a026ba895aad6875e0ea6ce95274"), looks := true }, kinds := [], alts := [], laidByText := true, laidKinds := [.data, .data, .data, .data, .sentinel, .sentinel, .data, .pinned], laidTests := true, laidLooks := .later }
def OpsApartCardSaid : Prop := Claim7.holds Tryd.pinned (.plain (OpenSpec.ofChange opsApartSpec)) opsApartCard

/-- THE SECOND FORM's CARD OF 'shunterlaw28.OpsAnswers'. -/
def opsAnswersUptoCard : Claim7 := { stood := { row := opsAnswersUptoRow, standIns := [], harness := (true, "6845796f647eb0dfceeecd427c22acf3fec5a026ba895aad6875e0ea6ce95274"), looks := true }, kinds := [], alts := [], laidByText := true, laidKinds := [.data, .data, .data, .data, .sentinel, .sentinel, .data, .pinned], laidTests := true, laidLooks := .later }
def OpsAnswersUptoCardSaid : Prop := Claim7.holds Tryd.pinned (.plain (OpenSpec.upto opsAnswersSpec)) opsAnswersUptoCard

/-- THE SECOND FORM's CARD OF 'shunterlaw28.OpsKnown'. -/
def opsKnownUptoCard : Claim7 := { stood := { row := opsKnownUptoRow, standIns := [], harness := (true, "6845796f647eb0dfceeecd427c22acf3fec5a026ba895aad6875e0ea6ce95274"), looks := true }, kinds := [], alts := [], laidByText := true, laidKinds := [.data, .data, .data, .data, .sentinel, .sentinel, .data, .pinned], laidTests := true, laidLooks := .later }
def OpsKnownUptoCardSaid : Prop := Claim7.holds Tryd.pinned (.plain (OpenSpec.upto opsKnownSpec)) opsKnownUptoCard

/-- THE SECOND FORM's CARD OF 'shunterlaw28.OpsCalls'. -/
def opsCallsUptoCard : Claim7 := { stood := { row := opsCallsUptoRow, standIns := [], harness := (true, "6845796f647eb0dfceeecd427c22acf3fec5a026ba895aad6875e0ea6ce95274"), looks := true }, kinds := [], alts := [], laidByText := true, laidKinds := [.data, .data, .data, .data, .sentinel, .sentinel, .data, .pinned], laidTests := true, laidLooks := .later }
def OpsCallsUptoCardSaid : Prop := Claim7.holds Tryd.pinned (.plain (OpenSpec.upto opsCallsSpec)) opsCallsUptoCard

/-- THE SECOND FORM's CARD OF 'shunterlaw28.OpsBack'. -/
def opsBackUptoCard : Claim7 := { stood := { row := opsBackUptoRow, standIns := [], harness := (true, "6845796f647eb0dfceeecd427c22acf3fec5a026ba895aad6875e0ea6ce95274"), looks := true }, kinds := [], alts := [], laidByText := true, laidKinds := [.data, .data, .data, .data, .sentinel, .sentinel, .data, .pinned], laidTests := true, laidLooks := .later }
def OpsBackUptoCardSaid : Prop := Claim7.holds Tryd.pinned (.plain (OpenSpec.upto opsBackSpec)) opsBackUptoCard

/-- THE SECOND FORM's CARD OF 'shunterlaw28.OpsApart'. -/
def opsApartUptoCard : Claim7 := { stood := { row := opsApartUptoRow, standIns := [], harness := (true, "6845796f647eb0dfceeecd427c22acf3fec5a026ba895aad6875e0ea6ce95274"), looks := true }, kinds := [], alts := [], laidByText := true, laidKinds := [.data, .data, .data, .data, .sentinel, .sentinel, .data, .pinned], laidTests := true, laidLooks := .later }
def OpsApartUptoCardSaid : Prop := Claim7.holds Tryd.pinned (.plain (OpenSpec.upto opsApartSpec)) opsApartUptoCard
end Rows
end Go.Proofs.YtbfnkdbibgljhaaDoor
