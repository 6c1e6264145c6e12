/-
  No cell of these rows narrows 'for every input' (looked for: loops, veiled, ifaces, maps, wideKeys, modest, calm, conditions, laid).
  DERIVED. THE GIVEN ROWS OF THIS SEAT. 9 by the template 'for every input the law returns true; each argument reads behind the call as it read before'; 0 by the template 'total and deterministic' (their statements: YtemlhhgpkifjaaaTotals.lean).
  GIVEN WITH THE SEED: the statements are not yours to turn. If you find one false, say at which input.
  Laid BY PROGRAM, IN A SANDBOX (cutbox-rows.mjs): the forced cells as the released guide's own fill.sh prints them over the translation ec52c29ba391fb8e… (all of the seat's roots in one cut). By AI agents, Wed Nov 11 2026. No macro, syntax, notation, axiom, sorry.
-/
import Derived.Test.YtemlhhgpkifjaaaChecked
import GoSem.Claim
import GoSem.ClaimJoined
import GoSem.ClaimMapViews
import Derived.JoinedTies
import Derived.KernelRfl
namespace Go.Proofs.Ytemlhhgpkifjaaa
/- THE CELL 'sum', in the pinned program and in every row, IS THE sha256 OF THE DUMP (.gsa) THAT YtemlhhgpkifjaaaProg.lean LOADS. Nothing in Lean hashes anything: it is a label: what it is worth is what the hold of that sum in a sandbox is worth. -/
noncomputable def Try.pinned : Pinned := { name := "ytemlhhgpkifjaaa", sum := "ec52c29ba391fb8e84bd002726a15b3bb3e8cdd6269fc990746a600f375b949b", checked := Try.checked }
namespace Rows
def none {H : Type} : Left H := { results := [], args := [] }

/-- 'laws.FnExactIsValidReadings': WHATEVER THE INPUT: true; the input reads as it did. -/
def fnExactIsValidReadingsSpec : ChangeSpec := { name := "fnExactIsValidReadings", fn := fun _ => fun
  | [d] => { results := [.lit (.bool true)], args := [d] }
  | _ => none }
def fnExactIsValidReadingsRow : OpenClaim := { program := "ytemlhhgpkifjaaa", sum := "ec52c29ba391fb8e84bd002726a15b3bb3e8cdd6269fc990746a600f375b949b", func := "loop.example/g00853/laws.FnExactIsValidReadings", spec := "fnExactIsValidReadings", apart := false }
def FnExactIsValidReadingsSaid : Prop := fnExactIsValidReadingsRow.holds Try.pinned (OpenSpec.ofChange fnExactIsValidReadingsSpec)

/-- ITS FALSE NEIGHBOUR: 'it returns false'. Refute it at one input. -/
def fnExactIsValidReadingsWrong : ChangeSpec := { name := "fnExactIsValidReadings", fn := fun _ => fun
  | [d] => { results := [.lit (.bool false)], args := [d] }
  | _ => none }
def FnExactIsValidReadingsWrongFalsely : Prop := fnExactIsValidReadingsRow.holds Try.pinned (OpenSpec.ofChange fnExactIsValidReadingsWrong)

/-- 'laws.FnExactStoppedDays': WHATEVER THE INPUT: true; the input reads as it did. -/
def fnExactStoppedDaysSpec : ChangeSpec := { name := "fnExactStoppedDays", fn := fun _ => fun
  | [d] => { results := [.lit (.bool true)], args := [d] }
  | _ => none }
def fnExactStoppedDaysRow : OpenClaim := { program := "ytemlhhgpkifjaaa", sum := "ec52c29ba391fb8e84bd002726a15b3bb3e8cdd6269fc990746a600f375b949b", func := "loop.example/g00853/laws.FnExactStoppedDays", spec := "fnExactStoppedDays", apart := false }
def FnExactStoppedDaysSaid : Prop := fnExactStoppedDaysRow.holds Try.pinned (OpenSpec.ofChange fnExactStoppedDaysSpec)

/-- ITS FALSE NEIGHBOUR: 'it returns false'. Refute it at one input. -/
def fnExactStoppedDaysWrong : ChangeSpec := { name := "fnExactStoppedDays", fn := fun _ => fun
  | [d] => { results := [.lit (.bool false)], args := [d] }
  | _ => none }
def FnExactStoppedDaysWrongFalsely : Prop := fnExactStoppedDaysRow.holds Try.pinned (OpenSpec.ofChange fnExactStoppedDaysWrong)

/-- 'laws.FnExactTotalUse': WHATEVER THE INPUT: true; the input reads as it did. -/
def fnExactTotalUseSpec : ChangeSpec := { name := "fnExactTotalUse", fn := fun _ => fun
  | [d] => { results := [.lit (.bool true)], args := [d] }
  | _ => none }
def fnExactTotalUseRow : OpenClaim := { program := "ytemlhhgpkifjaaa", sum := "ec52c29ba391fb8e84bd002726a15b3bb3e8cdd6269fc990746a600f375b949b", func := "loop.example/g00853/laws.FnExactTotalUse", spec := "fnExactTotalUse", apart := false }
def FnExactTotalUseSaid : Prop := fnExactTotalUseRow.holds Try.pinned (OpenSpec.ofChange fnExactTotalUseSpec)

/-- ITS FALSE NEIGHBOUR: 'it returns false'. Refute it at one input. -/
def fnExactTotalUseWrong : ChangeSpec := { name := "fnExactTotalUse", fn := fun _ => fun
  | [d] => { results := [.lit (.bool false)], args := [d] }
  | _ => none }
def FnExactTotalUseWrongFalsely : Prop := fnExactTotalUseRow.holds Try.pinned (OpenSpec.ofChange fnExactTotalUseWrong)

/-- 'laws.FnExactNextCount': WHATEVER THE INPUT: true; the input reads as it did. -/
def fnExactNextCountSpec : ChangeSpec := { name := "fnExactNextCount", fn := fun _ => fun
  | [d1, d2] => { results := [.lit (.bool true)], args := [d1, d2] }
  | _ => none }
def fnExactNextCountRow : OpenClaim := { program := "ytemlhhgpkifjaaa", sum := "ec52c29ba391fb8e84bd002726a15b3bb3e8cdd6269fc990746a600f375b949b", func := "loop.example/g00853/laws.FnExactNextCount", spec := "fnExactNextCount", apart := false }
def FnExactNextCountSaid : Prop := fnExactNextCountRow.holds Try.pinned (OpenSpec.ofChange fnExactNextCountSpec)

/-- ITS FALSE NEIGHBOUR: 'it returns false'. Refute it at one input. -/
def fnExactNextCountWrong : ChangeSpec := { name := "fnExactNextCount", fn := fun _ => fun
  | [d1, d2] => { results := [.lit (.bool false)], args := [d1, d2] }
  | _ => none }
def FnExactNextCountWrongFalsely : Prop := fnExactNextCountRow.holds Try.pinned (OpenSpec.ofChange fnExactNextCountWrong)

/-- 'laws.FnExactAddReading': WHATEVER THE INPUT: true; the input reads as it did. -/
def fnExactAddReadingSpec : ChangeSpec := { name := "fnExactAddReading", fn := fun _ => fun
  | [d1, d2, d3] => { results := [.lit (.bool true)], args := [d1, d2, d3] }
  | _ => none }
def fnExactAddReadingRow : OpenClaim := { program := "ytemlhhgpkifjaaa", sum := "ec52c29ba391fb8e84bd002726a15b3bb3e8cdd6269fc990746a600f375b949b", func := "loop.example/g00853/laws.FnExactAddReading", spec := "fnExactAddReading", apart := false }
def FnExactAddReadingSaid : Prop := fnExactAddReadingRow.holds Try.pinned (OpenSpec.ofChange fnExactAddReadingSpec)

/-- ITS FALSE NEIGHBOUR: 'it returns false'. Refute it at one input. -/
def fnExactAddReadingWrong : ChangeSpec := { name := "fnExactAddReading", fn := fun _ => fun
  | [d1, d2, d3] => { results := [.lit (.bool false)], args := [d1, d2, d3] }
  | _ => none }
def FnExactAddReadingWrongFalsely : Prop := fnExactAddReadingRow.holds Try.pinned (OpenSpec.ofChange fnExactAddReadingWrong)

/-- 'laws.FnExactUsesOf': WHATEVER THE INPUT: true; the input reads as it did. -/
def fnExactUsesOfSpec : ChangeSpec := { name := "fnExactUsesOf", fn := fun _ => fun
  | [d] => { results := [.lit (.bool true)], args := [d] }
  | _ => none }
def fnExactUsesOfRow : OpenClaim := { program := "ytemlhhgpkifjaaa", sum := "ec52c29ba391fb8e84bd002726a15b3bb3e8cdd6269fc990746a600f375b949b", func := "loop.example/g00853/laws.FnExactUsesOf", spec := "fnExactUsesOf", apart := false }
def FnExactUsesOfSaid : Prop := fnExactUsesOfRow.holds Try.pinned (OpenSpec.ofChange fnExactUsesOfSpec)

/-- ITS FALSE NEIGHBOUR: 'it returns false'. Refute it at one input. -/
def fnExactUsesOfWrong : ChangeSpec := { name := "fnExactUsesOf", fn := fun _ => fun
  | [d] => { results := [.lit (.bool false)], args := [d] }
  | _ => none }
def FnExactUsesOfWrongFalsely : Prop := fnExactUsesOfRow.holds Try.pinned (OpenSpec.ofChange fnExactUsesOfWrong)

/-- 'laws.FnExactUseUpTo': WHATEVER THE INPUT: true; the input reads as it did. -/
def fnExactUseUpToSpec : ChangeSpec := { name := "fnExactUseUpTo", fn := fun _ => fun
  | [d1, d2] => { results := [.lit (.bool true)], args := [d1, d2] }
  | _ => none }
def fnExactUseUpToRow : OpenClaim := { program := "ytemlhhgpkifjaaa", sum := "ec52c29ba391fb8e84bd002726a15b3bb3e8cdd6269fc990746a600f375b949b", func := "loop.example/g00853/laws.FnExactUseUpTo", spec := "fnExactUseUpTo", apart := false }
def FnExactUseUpToSaid : Prop := fnExactUseUpToRow.holds Try.pinned (OpenSpec.ofChange fnExactUseUpToSpec)

/-- ITS FALSE NEIGHBOUR: 'it returns false'. Refute it at one input. -/
def fnExactUseUpToWrong : ChangeSpec := { name := "fnExactUseUpTo", fn := fun _ => fun
  | [d1, d2] => { results := [.lit (.bool false)], args := [d1, d2] }
  | _ => none }
def FnExactUseUpToWrongFalsely : Prop := fnExactUseUpToRow.holds Try.pinned (OpenSpec.ofChange fnExactUseUpToWrong)

/-- 'laws.FnExactHighestUse': WHATEVER THE INPUT: true; the input reads as it did. -/
def fnExactHighestUseSpec : ChangeSpec := { name := "fnExactHighestUse", fn := fun _ => fun
  | [d] => { results := [.lit (.bool true)], args := [d] }
  | _ => none }
def fnExactHighestUseRow : OpenClaim := { program := "ytemlhhgpkifjaaa", sum := "ec52c29ba391fb8e84bd002726a15b3bb3e8cdd6269fc990746a600f375b949b", func := "loop.example/g00853/laws.FnExactHighestUse", spec := "fnExactHighestUse", apart := false }
def FnExactHighestUseSaid : Prop := fnExactHighestUseRow.holds Try.pinned (OpenSpec.ofChange fnExactHighestUseSpec)

/-- ITS FALSE NEIGHBOUR: 'it returns false'. Refute it at one input. -/
def fnExactHighestUseWrong : ChangeSpec := { name := "fnExactHighestUse", fn := fun _ => fun
  | [d] => { results := [.lit (.bool false)], args := [d] }
  | _ => none }
def FnExactHighestUseWrongFalsely : Prop := fnExactHighestUseRow.holds Try.pinned (OpenSpec.ofChange fnExactHighestUseWrong)

/-- 'laws.FnMeters': WHATEVER THE INPUT: true; the input reads as it did. -/
def fnMetersSpec : ChangeSpec := { name := "fnMeters", fn := fun _ => fun
  | [d] => { results := [.lit (.bool true)], args := [d] }
  | _ => none }
def fnMetersRow : OpenClaim := { program := "ytemlhhgpkifjaaa", sum := "ec52c29ba391fb8e84bd002726a15b3bb3e8cdd6269fc990746a600f375b949b", func := "loop.example/g00853/laws.FnMeters", spec := "fnMeters", apart := false }
def FnMetersSaid : Prop := fnMetersRow.holds Try.pinned (OpenSpec.ofChange fnMetersSpec)

/-- ITS FALSE NEIGHBOUR: 'it returns false'. Refute it at one input. -/
def fnMetersWrong : ChangeSpec := { name := "fnMeters", fn := fun _ => fun
  | [d] => { results := [.lit (.bool false)], args := [d] }
  | _ => none }
def FnMetersWrongFalsely : Prop := fnMetersRow.holds Try.pinned (OpenSpec.ofChange fnMetersWrong)

/- THE SECOND FORM. 'bulk': how many values and letters a reading holds, each counted each time it is reached (what is shared counts as often as it is met; a slice's spare places count too). A statement '..UptoSaid' is the law's where the arguments, and the package variables that the reading takes, are together of bulk at most 1048576: NARROWER than '..Said'. Prove '..Said' where nothing that the law and all that it calls make is longer than what came in: it says more and counts as full. Else prove '..UptoSaid'. A law counts once. -/
mutual
def uptoBulk {H : Type} : DataW H → Nat
  | .lit (.string bytes) => bytes.length + 1
  | .lit _ => 1
  | .nil => 1
  | .ptr d => uptoBulk d + 1
  | .slice elems spare => uptoBulkAll elems + uptoBulkAll spare + 1
  | .agg parts => uptoBulkAll parts + 1
  | .iface _ d => uptoBulk d + 1
  | .map entries => uptoBulkEntries entries + 1
  | .held _ => 1
def uptoBulkAll {H : Type} : List (DataW H) → Nat
  | [] => 0
  | d :: r => uptoBulk d + uptoBulkAll r
def uptoBulkEntries {H : Type} : List (Lit × DataW H) → Nat
  | [] => 0
  | x :: r => uptoBulkEntry x + uptoBulkEntries r
def uptoBulkEntry {H : Type} : Lit × DataW H → Nat
  | (.string bytes, d) => bytes.length + uptoBulk d + 1
  | (_, d) => uptoBulk d + 1
 end
def uptoSmall : (H : Type) → List (DataW H) → Bool := fun _ ds => decide (uptoBulkAll ds ≤ 1048576)
def OpenSpec.upto (s : _root_.Go.ChangeSpec) : _root_.Go.OpenSpec := { _root_.Go.OpenSpec.ofChange s with cond := some uptoSmall }

/-- 'laws.FnExactIsValidReadings', WHERE WHAT IT READS IS OF BULK AT MOST 1048576: true; the input reads as it did. -/
def fnExactIsValidReadingsUptoRow : OpenClaim := { program := "ytemlhhgpkifjaaa", sum := "ec52c29ba391fb8e84bd002726a15b3bb3e8cdd6269fc990746a600f375b949b", func := "loop.example/g00853/laws.FnExactIsValidReadings", spec := "fnExactIsValidReadings", apart := false, narrowed := true }
def FnExactIsValidReadingsUptoSaid : Prop := fnExactIsValidReadingsUptoRow.holds Try.pinned (OpenSpec.upto fnExactIsValidReadingsSpec)

/-- 'laws.FnExactStoppedDays', WHERE WHAT IT READS IS OF BULK AT MOST 1048576: true; the input reads as it did. -/
def fnExactStoppedDaysUptoRow : OpenClaim := { program := "ytemlhhgpkifjaaa", sum := "ec52c29ba391fb8e84bd002726a15b3bb3e8cdd6269fc990746a600f375b949b", func := "loop.example/g00853/laws.FnExactStoppedDays", spec := "fnExactStoppedDays", apart := false, narrowed := true }
def FnExactStoppedDaysUptoSaid : Prop := fnExactStoppedDaysUptoRow.holds Try.pinned (OpenSpec.upto fnExactStoppedDaysSpec)

/-- 'laws.FnExactTotalUse', WHERE WHAT IT READS IS OF BULK AT MOST 1048576: true; the input reads as it did. -/
def fnExactTotalUseUptoRow : OpenClaim := { program := "ytemlhhgpkifjaaa", sum := "ec52c29ba391fb8e84bd002726a15b3bb3e8cdd6269fc990746a600f375b949b", func := "loop.example/g00853/laws.FnExactTotalUse", spec := "fnExactTotalUse", apart := false, narrowed := true }
def FnExactTotalUseUptoSaid : Prop := fnExactTotalUseUptoRow.holds Try.pinned (OpenSpec.upto fnExactTotalUseSpec)

/-- 'laws.FnExactNextCount', WHERE WHAT IT READS IS OF BULK AT MOST 1048576: true; the input reads as it did. -/
def fnExactNextCountUptoRow : OpenClaim := { program := "ytemlhhgpkifjaaa", sum := "ec52c29ba391fb8e84bd002726a15b3bb3e8cdd6269fc990746a600f375b949b", func := "loop.example/g00853/laws.FnExactNextCount", spec := "fnExactNextCount", apart := false, narrowed := true }
def FnExactNextCountUptoSaid : Prop := fnExactNextCountUptoRow.holds Try.pinned (OpenSpec.upto fnExactNextCountSpec)

/-- 'laws.FnExactAddReading', WHERE WHAT IT READS IS OF BULK AT MOST 1048576: true; the input reads as it did. -/
def fnExactAddReadingUptoRow : OpenClaim := { program := "ytemlhhgpkifjaaa", sum := "ec52c29ba391fb8e84bd002726a15b3bb3e8cdd6269fc990746a600f375b949b", func := "loop.example/g00853/laws.FnExactAddReading", spec := "fnExactAddReading", apart := false, narrowed := true }
def FnExactAddReadingUptoSaid : Prop := fnExactAddReadingUptoRow.holds Try.pinned (OpenSpec.upto fnExactAddReadingSpec)

/-- 'laws.FnExactUsesOf', WHERE WHAT IT READS IS OF BULK AT MOST 1048576: true; the input reads as it did. -/
def fnExactUsesOfUptoRow : OpenClaim := { program := "ytemlhhgpkifjaaa", sum := "ec52c29ba391fb8e84bd002726a15b3bb3e8cdd6269fc990746a600f375b949b", func := "loop.example/g00853/laws.FnExactUsesOf", spec := "fnExactUsesOf", apart := false, narrowed := true }
def FnExactUsesOfUptoSaid : Prop := fnExactUsesOfUptoRow.holds Try.pinned (OpenSpec.upto fnExactUsesOfSpec)

/-- 'laws.FnExactUseUpTo', WHERE WHAT IT READS IS OF BULK AT MOST 1048576: true; the input reads as it did. -/
def fnExactUseUpToUptoRow : OpenClaim := { program := "ytemlhhgpkifjaaa", sum := "ec52c29ba391fb8e84bd002726a15b3bb3e8cdd6269fc990746a600f375b949b", func := "loop.example/g00853/laws.FnExactUseUpTo", spec := "fnExactUseUpTo", apart := false, narrowed := true }
def FnExactUseUpToUptoSaid : Prop := fnExactUseUpToUptoRow.holds Try.pinned (OpenSpec.upto fnExactUseUpToSpec)

/-- 'laws.FnExactHighestUse', WHERE WHAT IT READS IS OF BULK AT MOST 1048576: true; the input reads as it did. -/
def fnExactHighestUseUptoRow : OpenClaim := { program := "ytemlhhgpkifjaaa", sum := "ec52c29ba391fb8e84bd002726a15b3bb3e8cdd6269fc990746a600f375b949b", func := "loop.example/g00853/laws.FnExactHighestUse", spec := "fnExactHighestUse", apart := false, narrowed := true }
def FnExactHighestUseUptoSaid : Prop := fnExactHighestUseUptoRow.holds Try.pinned (OpenSpec.upto fnExactHighestUseSpec)

/-- 'laws.FnMeters', WHERE WHAT IT READS IS OF BULK AT MOST 1048576: true; the input reads as it did. -/
def fnMetersUptoRow : OpenClaim := { program := "ytemlhhgpkifjaaa", sum := "ec52c29ba391fb8e84bd002726a15b3bb3e8cdd6269fc990746a600f375b949b", func := "loop.example/g00853/laws.FnMeters", spec := "fnMeters", apart := false, narrowed := true }
def FnMetersUptoSaid : Prop := fnMetersUptoRow.holds Try.pinned (OpenSpec.upto fnMetersSpec)

end Rows
end Go.Proofs.Ytemlhhgpkifjaaa
