/-
  DERIVED. GIVEN WITH THE SEED: THE CARDS: each row of YtemamoobemlkcaaDoorRows.lean that lists a variable, with what it lists TIED to the program's text (the seventh form; the later family's looks); each row that meets fmt, with fmt's text TOLD by the authors' own Lean function (tested against real Go, not proved from fmt's source: count such statements apart). THE CARD IS WHAT COUNTS. Prove the row's statement (the work); the ties are given (YtemamoobemlkcaaDoorTie.lean); close each card by the builder's one call (the guide's Derived/Test/ToyasCard.lean, 'card_holds'). Laid BY PROGRAM, IN A SANDBOX (cutbox-door.mjs). By AI agents, Wed Nov 11 2026. No macro, syntax, notation, axiom, sorry.
-/
import Derived.Test.YtemamoobemlkcaaDoorRows
import GoSem.ClaimSeven
namespace Go.Proofs.YtemamoobemlkcaaDoor
namespace Rows

/-- THE TIED CARD OF 'laws.FnExactParseReading'. -/
def fnExactParseReadingCard : Claim7 := { stood := { row := fnExactParseReadingRow, standIns := [], harness := (true, "f62d85b810677c111ce8007ef9dbc1ab6eda55a9a2bb6c4e248e5cdd82cd66ba"), looks := false }, kinds := [], alts := [], laidByText := true, laidKinds := [.data, .data, .data], laidTests := true, laidLooks := .later }
def FnExactParseReadingCardSaid : Prop := Claim7.holds Tryd.pinned (.plain (OpenSpec.ofChange fnExactParseReadingSpec)) fnExactParseReadingCard

/-- THE TIED CARD OF 'laws.FnExactParseBill'. -/
def fnExactParseBillCard : Claim7 := { stood := { row := fnExactParseBillRow, standIns := [], harness := (true, "f62d85b810677c111ce8007ef9dbc1ab6eda55a9a2bb6c4e248e5cdd82cd66ba"), looks := false }, kinds := [], alts := [], laidByText := true, laidKinds := [.data, .data, .data], laidTests := true, laidLooks := .later }
def FnExactParseBillCardSaid : Prop := Claim7.holds Tryd.pinned (.plain (OpenSpec.ofChange fnExactParseBillSpec)) fnExactParseBillCard

/-- THE TIED CARD OF 'laws.FnExactParseAlarm'. -/
def fnExactParseAlarmCard : Claim7 := { stood := { row := fnExactParseAlarmRow, standIns := [], harness := (true, "f62d85b810677c111ce8007ef9dbc1ab6eda55a9a2bb6c4e248e5cdd82cd66ba"), looks := false }, kinds := [], alts := [], laidByText := true, laidKinds := [.data, .data, .data], laidTests := true, laidLooks := .later }
def FnExactParseAlarmCardSaid : Prop := Claim7.holds Tryd.pinned (.plain (OpenSpec.ofChange fnExactParseAlarmSpec)) fnExactParseAlarmCard

/-- THE SECOND FORM's CARD OF 'laws.FnExactParseReading'. -/
def fnExactParseReadingUptoCard : Claim7 := { stood := { row := fnExactParseReadingUptoRow, standIns := [], harness := (true, "f62d85b810677c111ce8007ef9dbc1ab6eda55a9a2bb6c4e248e5cdd82cd66ba"), looks := false }, kinds := [], alts := [], laidByText := true, laidKinds := [.data, .data, .data], laidTests := true, laidLooks := .later }
def FnExactParseReadingUptoCardSaid : Prop := Claim7.holds Tryd.pinned (.plain (OpenSpec.upto fnExactParseReadingSpec)) fnExactParseReadingUptoCard

/-- THE SECOND FORM's CARD OF 'laws.FnExactParseBill'. -/
def fnExactParseBillUptoCard : Claim7 := { stood := { row := fnExactParseBillUptoRow, standIns := [], harness := (true, "f62d85b810677c111ce8007ef9dbc1ab6eda55a9a2bb6c4e248e5cdd82cd66ba"), looks := false }, kinds := [], alts := [], laidByText := true, laidKinds := [.data, .data, .data], laidTests := true, laidLooks := .later }
def FnExactParseBillUptoCardSaid : Prop := Claim7.holds Tryd.pinned (.plain (OpenSpec.upto fnExactParseBillSpec)) fnExactParseBillUptoCard

/-- THE SECOND FORM's CARD OF 'laws.FnExactParseAlarm'. -/
def fnExactParseAlarmUptoCard : Claim7 := { stood := { row := fnExactParseAlarmUptoRow, standIns := [], harness := (true, "f62d85b810677c111ce8007ef9dbc1ab6eda55a9a2bb6c4e248e5cdd82cd66ba"), looks := false }, kinds := [], alts := [], laidByText := true, laidKinds := [.data, .data, .data], laidTests := true, laidLooks := .later }
def FnExactParseAlarmUptoCardSaid : Prop := Claim7.holds Tryd.pinned (.plain (OpenSpec.upto fnExactParseAlarmSpec)) fnExactParseAlarmUptoCard
end Rows
end Go.Proofs.YtemamoobemlkcaaDoor
