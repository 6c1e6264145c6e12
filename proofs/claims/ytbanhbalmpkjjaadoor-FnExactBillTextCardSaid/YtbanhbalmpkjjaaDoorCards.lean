/-
  DERIVED. GIVEN WITH THE SEED: THE CARDS: each row of YtbanhbalmpkjjaaDoorRows.lean that lists a variable, with what it lists TIED to the program's text (the seventh form; the later family's looks); each row that meets fmt, with fmt's text TOLD by the authors' own Lean function (tested against real Go, not proved from fmt's source: count such statements apart). THE CARD IS WHAT COUNTS. Prove the row's statement (the work); the ties are given (YtbanhbalmpkjjaaDoorTie.lean); close each card by the builder's one call (the guide's Derived/Test/ToyasCard.lean, 'card_holds'). Laid BY PROGRAM, IN A SANDBOX (cutbox-door.mjs). By AI agents, Wed Nov 11 2026. No macro, syntax, notation, axiom, sorry.
-/
import Derived.Test.YtbanhbalmpkjjaaDoorRows
import GoSem.ClaimSeven
namespace Go.Proofs.YtbanhbalmpkjjaaDoor
namespace Rows

/-- THE TIED CARD OF 'laws.FnExactReadingText'. -/
def fnExactReadingTextCard : Claim7 := { stood := { row := fnExactReadingTextRow, standIns := [], harness := (true, "a991823de1171f5ea68f62928c1b9f0c7433d46aa2502e16f9d6f5f098a8ee25"), looks := false }, kinds := [], alts := [], laidByText := true, laidKinds := [.data, .data, .data], laidTests := true, laidLooks := .later }
def FnExactReadingTextCardSaid : Prop := Claim7.holds Tryd.pinned (.plain (OpenSpec.ofChange fnExactReadingTextSpec)) fnExactReadingTextCard

/-- THE TIED CARD OF 'laws.FnExactAlarmText'. -/
def fnExactAlarmTextCard : Claim7 := { stood := { row := fnExactAlarmTextRow, standIns := [], harness := (true, "a991823de1171f5ea68f62928c1b9f0c7433d46aa2502e16f9d6f5f098a8ee25"), looks := false }, kinds := [], alts := [], laidByText := true, laidKinds := [.data, .data, .data], laidTests := true, laidLooks := .later }
def FnExactAlarmTextCardSaid : Prop := Claim7.holds Tryd.pinned (.plain (OpenSpec.ofChange fnExactAlarmTextSpec)) fnExactAlarmTextCard

/-- THE TIED CARD OF 'laws.FnExactBillText'. -/
def fnExactBillTextCard : Claim7 := { stood := { row := fnExactBillTextRow, standIns := [], harness := (true, "a991823de1171f5ea68f62928c1b9f0c7433d46aa2502e16f9d6f5f098a8ee25"), looks := false }, kinds := [], alts := [], laidByText := true, laidKinds := [.data, .data, .data], laidTests := true, laidLooks := .later }
def FnExactBillTextCardSaid : Prop := Claim7.holds Tryd.pinned (.plain (OpenSpec.ofChange fnExactBillTextSpec)) fnExactBillTextCard

/-- THE SECOND FORM's CARD OF 'laws.FnExactReadingText'. -/
def fnExactReadingTextUptoCard : Claim7 := { stood := { row := fnExactReadingTextUptoRow, standIns := [], harness := (true, "a991823de1171f5ea68f62928c1b9f0c7433d46aa2502e16f9d6f5f098a8ee25"), looks := false }, kinds := [], alts := [], laidByText := true, laidKinds := [.data, .data, .data], laidTests := true, laidLooks := .later }
def FnExactReadingTextUptoCardSaid : Prop := Claim7.holds Tryd.pinned (.plain (OpenSpec.upto fnExactReadingTextSpec)) fnExactReadingTextUptoCard

/-- THE SECOND FORM's CARD OF 'laws.FnExactAlarmText'. -/
def fnExactAlarmTextUptoCard : Claim7 := { stood := { row := fnExactAlarmTextUptoRow, standIns := [], harness := (true, "a991823de1171f5ea68f62928c1b9f0c7433d46aa2502e16f9d6f5f098a8ee25"), looks := false }, kinds := [], alts := [], laidByText := true, laidKinds := [.data, .data, .data], laidTests := true, laidLooks := .later }
def FnExactAlarmTextUptoCardSaid : Prop := Claim7.holds Tryd.pinned (.plain (OpenSpec.upto fnExactAlarmTextSpec)) fnExactAlarmTextUptoCard

/-- THE SECOND FORM's CARD OF 'laws.FnExactBillText'. -/
def fnExactBillTextUptoCard : Claim7 := { stood := { row := fnExactBillTextUptoRow, standIns := [], harness := (true, "a991823de1171f5ea68f62928c1b9f0c7433d46aa2502e16f9d6f5f098a8ee25"), looks := false }, kinds := [], alts := [], laidByText := true, laidKinds := [.data, .data, .data], laidTests := true, laidLooks := .later }
def FnExactBillTextUptoCardSaid : Prop := Claim7.holds Tryd.pinned (.plain (OpenSpec.upto fnExactBillTextSpec)) fnExactBillTextUptoCard
end Rows
end Go.Proofs.YtbanhbalmpkjjaaDoor
