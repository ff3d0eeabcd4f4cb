/-
  DERIVED. GIVEN WITH THE SEED: THE CARDS: each row of YtfpiaajnphidiaaDoorRows.lean that lists a variable, with what it lists TIED to the program's text (the seventh form; the later family's looks); each row that meets fmt, with fmt's text TOLD by the authors' own Lean function (tested against real Go, not proved from fmt's source: count such statements apart). THE CARD IS WHAT COUNTS. Prove the row's statement (the work); the ties are given (YtfpiaajnphidiaaDoorTie.lean); close each card by the builder's one call (the guide's Derived/Test/ToyasCard.lean, 'card_holds'). Laid BY PROGRAM, IN A SANDBOX (cutbox-door.mjs). By AI agents, Wed Nov 11 2026. No macro, syntax, notation, axiom, sorry.
-/
import Derived.Test.YtfpiaajnphidiaaDoorRows
import GoSem.ClaimSeven
namespace Go.Proofs.YtfpiaajnphidiaaDoor
namespace Rows

/-- THE TIED CARD OF 'laws.FnExactDecimal'. -/
def fnExactDecimalCard : Claim7 := { stood := { row := fnExactDecimalRow, standIns := [], harness := (true, "5d923c0fd254d0ec15cce3a62d1ab3108fdd87c5802f303b83e3f05faea3aa0d"), looks := false }, kinds := [], alts := [], laidByText := true, laidKinds := [.data, .data, .data], laidTests := true, laidLooks := .later }
def FnExactDecimalCardSaid : Prop := Claim7.holds Tryd.pinned (.plain (OpenSpec.ofChange fnExactDecimalSpec)) fnExactDecimalCard

/-- THE TIED CARD OF 'laws.FnExactFixedText'. -/
def fnExactFixedTextCard : Claim7 := { stood := { row := fnExactFixedTextRow, standIns := [], harness := (true, "5d923c0fd254d0ec15cce3a62d1ab3108fdd87c5802f303b83e3f05faea3aa0d"), looks := false }, kinds := [], alts := [], laidByText := true, laidKinds := [.data, .data, .data], laidTests := true, laidLooks := .later }
def FnExactFixedTextCardSaid : Prop := Claim7.holds Tryd.pinned (.plain (OpenSpec.ofChange fnExactFixedTextSpec)) fnExactFixedTextCard

/-- THE TIED CARD OF 'laws.FnExactDateText'. -/
def fnExactDateTextCard : Claim7 := { stood := { row := fnExactDateTextRow, standIns := [], harness := (true, "5d923c0fd254d0ec15cce3a62d1ab3108fdd87c5802f303b83e3f05faea3aa0d"), looks := false }, kinds := [], alts := [], laidByText := true, laidKinds := [.data, .data, .data], laidTests := true, laidLooks := .later }
def FnExactDateTextCardSaid : Prop := Claim7.holds Tryd.pinned (.plain (OpenSpec.ofChange fnExactDateTextSpec)) fnExactDateTextCard

/-- THE TIED CARD OF 'laws.FnExactReadDate'. -/
def fnExactReadDateCard : Claim7 := { stood := { row := fnExactReadDateRow, standIns := [], harness := (true, "5d923c0fd254d0ec15cce3a62d1ab3108fdd87c5802f303b83e3f05faea3aa0d"), looks := false }, kinds := [], alts := [], laidByText := true, laidKinds := [.data, .data, .data], laidTests := true, laidLooks := .later }
def FnExactReadDateCardSaid : Prop := Claim7.holds Tryd.pinned (.plain (OpenSpec.ofChange fnExactReadDateSpec)) fnExactReadDateCard

/-- THE TIED CARD OF 'laws.FnExactListText'. -/
def fnExactListTextCard : Claim7 := { stood := { row := fnExactListTextRow, standIns := [], harness := (true, "5d923c0fd254d0ec15cce3a62d1ab3108fdd87c5802f303b83e3f05faea3aa0d"), looks := false }, kinds := [], alts := [], laidByText := true, laidKinds := [.data, .data, .data], laidTests := true, laidLooks := .later }
def FnExactListTextCardSaid : Prop := Claim7.holds Tryd.pinned (.plain (OpenSpec.ofChange fnExactListTextSpec)) fnExactListTextCard

/-- THE SECOND FORM's CARD OF 'laws.FnExactDecimal'. -/
def fnExactDecimalUptoCard : Claim7 := { stood := { row := fnExactDecimalUptoRow, standIns := [], harness := (true, "5d923c0fd254d0ec15cce3a62d1ab3108fdd87c5802f303b83e3f05faea3aa0d"), looks := false }, kinds := [], alts := [], laidByText := true, laidKinds := [.data, .data, .data], laidTests := true, laidLooks := .later }
def FnExactDecimalUptoCardSaid : Prop := Claim7.holds Tryd.pinned (.plain (OpenSpec.upto fnExactDecimalSpec)) fnExactDecimalUptoCard

/-- THE SECOND FORM's CARD OF 'laws.FnExactFixedText'. -/
def fnExactFixedTextUptoCard : Claim7 := { stood := { row := fnExactFixedTextUptoRow, standIns := [], harness := (true, "5d923c0fd254d0ec15cce3a62d1ab3108fdd87c5802f303b83e3f05faea3aa0d"), looks := false }, kinds := [], alts := [], laidByText := true, laidKinds := [.data, .data, .data], laidTests := true, laidLooks := .later }
def FnExactFixedTextUptoCardSaid : Prop := Claim7.holds Tryd.pinned (.plain (OpenSpec.upto fnExactFixedTextSpec)) fnExactFixedTextUptoCard

/-- THE SECOND FORM's CARD OF 'laws.FnExactDateText'. -/
def fnExactDateTextUptoCard : Claim7 := { stood := { row := fnExactDateTextUptoRow, standIns := [], harness := (true, "5d923c0fd254d0ec15cce3a62d1ab3108fdd87c5802f303b83e3f05faea3aa0d"), looks := false }, kinds := [], alts := [], laidByText := true, laidKinds := [.data, .data, .data], laidTests := true, laidLooks := .later }
def FnExactDateTextUptoCardSaid : Prop := Claim7.holds Tryd.pinned (.plain (OpenSpec.upto fnExactDateTextSpec)) fnExactDateTextUptoCard

/-- THE SECOND FORM's CARD OF 'laws.FnExactReadDate'. -/
def fnExactReadDateUptoCard : Claim7 := { stood := { row := fnExactReadDateUptoRow, standIns := [], harness := (true, "5d923c0fd254d0ec15cce3a62d1ab3108fdd87c5802f303b83e3f05faea3aa0d"), looks := false }, kinds := [], alts := [], laidByText := true, laidKinds := [.data, .data, .data], laidTests := true, laidLooks := .later }
def FnExactReadDateUptoCardSaid : Prop := Claim7.holds Tryd.pinned (.plain (OpenSpec.upto fnExactReadDateSpec)) fnExactReadDateUptoCard

/-- THE SECOND FORM's CARD OF 'laws.FnExactListText'. -/
def fnExactListTextUptoCard : Claim7 := { stood := { row := fnExactListTextUptoRow, standIns := [], harness := (true, "5d923c0fd254d0ec15cce3a62d1ab3108fdd87c5802f303b83e3f05faea3aa0d"), looks := false }, kinds := [], alts := [], laidByText := true, laidKinds := [.data, .data, .data], laidTests := true, laidLooks := .later }
def FnExactListTextUptoCardSaid : Prop := Claim7.holds Tryd.pinned (.plain (OpenSpec.upto fnExactListTextSpec)) fnExactListTextUptoCard
end Rows
end Go.Proofs.YtfpiaajnphidiaaDoor
