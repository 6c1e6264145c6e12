/-
  DERIVED. GIVEN WITH THE SEED: THE CARDS: each row of YthnnbgggfpempaaDoorRows.lean that lists a variable, with what it lists TIED to the program's text (the seventh form; the later family's looks); each row that meets fmt, with fmt's text TOLD by the authors' own Lean function (tested against real Go, not proved from fmt's source: count such statements apart). THE CARD IS WHAT COUNTS. Prove the row's statement (the work); the ties are given (YthnnbgggfpempaaDoorTie.lean); close each card by the builder's one call (the guide's Derived/Test/ToyasCard.lean, 'card_holds'). Laid BY PROGRAM, IN A SANDBOX (cutbox-door.mjs). By AI agents, Wed Nov 11 2026. No macro, syntax, notation, axiom, sorry.
-/
import Derived.Test.YthnnbgggfpempaaDoorRows
import GoSem.ClaimSeven
namespace Go.Proofs.YthnnbgggfpempaaDoor
namespace Rows

/-- THE TIED CARD OF 'laws.FnMeterTexts'. -/
def fnMeterTextsCard : Claim7 := { stood := { row := fnMeterTextsRow, standIns := [], harness := (true, "e25e87052560ed268efea6f97c11b9e395cf7786894345a47327d80a4b689664"), looks := false }, kinds := [], alts := [], laidByText := true, laidKinds := [.data, .data, .data], laidTests := true, laidLooks := .later }
def FnMeterTextsCardSaid : Prop := Claim7.holds Tryd.pinned (.plain (OpenSpec.ofChange fnMeterTextsSpec)) fnMeterTextsCard

/-- THE TIED CARD OF 'laws.FnBillTexts'. -/
def fnBillTextsCard : Claim7 := { stood := { row := fnBillTextsRow, standIns := [], harness := (true, "e25e87052560ed268efea6f97c11b9e395cf7786894345a47327d80a4b689664"), looks := false }, kinds := [], alts := [], laidByText := true, laidKinds := [.data, .data, .data], laidTests := true, laidLooks := .later }
def FnBillTextsCardSaid : Prop := Claim7.holds Tryd.pinned (.plain (OpenSpec.ofChange fnBillTextsSpec)) fnBillTextsCard

/-- THE TIED CARD OF 'laws.FnAlarms'. -/
def fnAlarmsCard : Claim7 := { stood := { row := fnAlarmsRow, standIns := [], harness := (true, "e25e87052560ed268efea6f97c11b9e395cf7786894345a47327d80a4b689664"), looks := false }, kinds := [], alts := [], laidByText := true, laidKinds := [.data, .data, .data], laidTests := true, laidLooks := .later }
def FnAlarmsCardSaid : Prop := Claim7.holds Tryd.pinned (.plain (OpenSpec.ofChange fnAlarmsSpec)) fnAlarmsCard

/-- THE SECOND FORM's CARD OF 'laws.FnMeterTexts'. -/
def fnMeterTextsUptoCard : Claim7 := { stood := { row := fnMeterTextsUptoRow, standIns := [], harness := (true, "e25e87052560ed268efea6f97c11b9e395cf7786894345a47327d80a4b689664"), looks := false }, kinds := [], alts := [], laidByText := true, laidKinds := [.data, .data, .data], laidTests := true, laidLooks := .later }
def FnMeterTextsUptoCardSaid : Prop := Claim7.holds Tryd.pinned (.plain (OpenSpec.upto fnMeterTextsSpec)) fnMeterTextsUptoCard

/-- THE SECOND FORM's CARD OF 'laws.FnBillTexts'. -/
def fnBillTextsUptoCard : Claim7 := { stood := { row := fnBillTextsUptoRow, standIns := [], harness := (true, "e25e87052560ed268efea6f97c11b9e395cf7786894345a47327d80a4b689664"), looks := false }, kinds := [], alts := [], laidByText := true, laidKinds := [.data, .data, .data], laidTests := true, laidLooks := .later }
def FnBillTextsUptoCardSaid : Prop := Claim7.holds Tryd.pinned (.plain (OpenSpec.upto fnBillTextsSpec)) fnBillTextsUptoCard

/-- THE SECOND FORM's CARD OF 'laws.FnAlarms'. -/
def fnAlarmsUptoCard : Claim7 := { stood := { row := fnAlarmsUptoRow, standIns := [], harness := (true, "e25e87052560ed268efea6f97c11b9e395cf7786894345a47327d80a4b689664"), looks := false }, kinds := [], alts := [], laidByText := true, laidKinds := [.data, .data, .data], laidTests := true, laidLooks := .later }
def FnAlarmsUptoCardSaid : Prop := Claim7.holds Tryd.pinned (.plain (OpenSpec.upto fnAlarmsSpec)) fnAlarmsUptoCard
end Rows
end Go.Proofs.YthnnbgggfpempaaDoor
