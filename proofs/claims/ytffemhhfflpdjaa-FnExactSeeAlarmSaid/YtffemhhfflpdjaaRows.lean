/-
  No cell of these rows narrows 'for every input' (looked for: loops, veiled, ifaces, maps, wideKeys, modest, calm, conditions, laid).
  DERIVED. THE GIVEN ROWS OF THIS SEAT. 6 by the template 'for every input the law returns true; each argument reads behind the call as it read before'; 0 by the template 'total and deterministic' (their statements: YtffemhhfflpdjaaTotals.lean).
  GIVEN WITH THE SEED: the statements are not yours to turn. If you find one false, say at which input.
  Laid BY PROGRAM, IN A SANDBOX (cutbox-rows.mjs): the forced cells as the released guide's own fill.sh prints them over the translation 812f305b4eda5345… (all of the seat's roots in one cut). By AI agents, Wed Nov 11 2026. No macro, syntax, notation, axiom, sorry.
-/
import Derived.Test.YtffemhhfflpdjaaChecked
import GoSem.Claim
import GoSem.ClaimJoined
import GoSem.ClaimMapViews
import Derived.JoinedTies
import Derived.KernelRfl
namespace Go.Proofs.Ytffemhhfflpdjaa
/- THE CELL 'sum', in the pinned program and in every row, IS THE sha256 OF THE DUMP (.gsa) THAT YtffemhhfflpdjaaProg.lean LOADS. Nothing in Lean hashes anything: it is a label: what it is worth is what the hold of that sum in a sandbox is worth. -/
noncomputable def Try.pinned : Pinned := { name := "ytffemhhfflpdjaa", sum := "812f305b4eda534545f2e7ae81f18fc6ff0069c66be9c4da98fffa162d947b66", checked := Try.checked }
namespace Rows
def none {H : Type} : Left H := { results := [], args := [] }

/-- 'laws.FnExactAreRules': WHATEVER THE INPUT: true; the input reads as it did. -/
def fnExactAreRulesSpec : ChangeSpec := { name := "fnExactAreRules", fn := fun _ => fun
  | [d] => { results := [.lit (.bool true)], args := [d] }
  | _ => none }
def fnExactAreRulesRow : OpenClaim := { program := "ytffemhhfflpdjaa", sum := "812f305b4eda534545f2e7ae81f18fc6ff0069c66be9c4da98fffa162d947b66", func := "loop.example/g00853/laws.FnExactAreRules", spec := "fnExactAreRules", apart := false }
def FnExactAreRulesSaid : Prop := fnExactAreRulesRow.holds Try.pinned (OpenSpec.ofChange fnExactAreRulesSpec)

/-- ITS FALSE NEIGHBOUR: 'it returns false'. Refute it at one input. -/
def fnExactAreRulesWrong : ChangeSpec := { name := "fnExactAreRules", fn := fun _ => fun
  | [d] => { results := [.lit (.bool false)], args := [d] }
  | _ => none }
def FnExactAreRulesWrongFalsely : Prop := fnExactAreRulesRow.holds Try.pinned (OpenSpec.ofChange fnExactAreRulesWrong)

/-- 'laws.FnExactSeeAlarm': WHATEVER THE INPUT: true; the input reads as it did. -/
def fnExactSeeAlarmSpec : ChangeSpec := { name := "fnExactSeeAlarm", fn := fun _ => fun
  | [d1, d2] => { results := [.lit (.bool true)], args := [d1, d2] }
  | _ => none }
def fnExactSeeAlarmRow : OpenClaim := { program := "ytffemhhfflpdjaa", sum := "812f305b4eda534545f2e7ae81f18fc6ff0069c66be9c4da98fffa162d947b66", func := "loop.example/g00853/laws.FnExactSeeAlarm", spec := "fnExactSeeAlarm", unfollowed := true, recurses := true, apart := false }
def FnExactSeeAlarmSaid : Prop := fnExactSeeAlarmRow.holds Try.pinned (OpenSpec.ofChange fnExactSeeAlarmSpec)

/-- ITS FALSE NEIGHBOUR: 'it returns false'. Refute it at one input. -/
def fnExactSeeAlarmWrong : ChangeSpec := { name := "fnExactSeeAlarm", fn := fun _ => fun
  | [d1, d2] => { results := [.lit (.bool false)], args := [d1, d2] }
  | _ => none }
def FnExactSeeAlarmWrongFalsely : Prop := fnExactSeeAlarmRow.holds Try.pinned (OpenSpec.ofChange fnExactSeeAlarmWrong)

/-- 'laws.FnExactAlarmHours': WHATEVER THE INPUT: true; the input reads as it did. -/
def fnExactAlarmHoursSpec : ChangeSpec := { name := "fnExactAlarmHours", fn := fun _ => fun
  | [d1, d2, d3] => { results := [.lit (.bool true)], args := [d1, d2, d3] }
  | _ => none }
def fnExactAlarmHoursRow : OpenClaim := { program := "ytffemhhfflpdjaa", sum := "812f305b4eda534545f2e7ae81f18fc6ff0069c66be9c4da98fffa162d947b66", func := "loop.example/g00853/laws.FnExactAlarmHours", spec := "fnExactAlarmHours", apart := false }
def FnExactAlarmHoursSaid : Prop := fnExactAlarmHoursRow.holds Try.pinned (OpenSpec.ofChange fnExactAlarmHoursSpec)

/-- ITS FALSE NEIGHBOUR: 'it returns false'. Refute it at one input. -/
def fnExactAlarmHoursWrong : ChangeSpec := { name := "fnExactAlarmHours", fn := fun _ => fun
  | [d1, d2, d3] => { results := [.lit (.bool false)], args := [d1, d2, d3] }
  | _ => none }
def FnExactAlarmHoursWrongFalsely : Prop := fnExactAlarmHoursRow.holds Try.pinned (OpenSpec.ofChange fnExactAlarmHoursWrong)

/-- 'laws.FnExactUnseenNodes': WHATEVER THE INPUT: true; the input reads as it did. -/
def fnExactUnseenNodesSpec : ChangeSpec := { name := "fnExactUnseenNodes", fn := fun _ => fun
  | [d] => { results := [.lit (.bool true)], args := [d] }
  | _ => none }
def fnExactUnseenNodesRow : OpenClaim := { program := "ytffemhhfflpdjaa", sum := "812f305b4eda534545f2e7ae81f18fc6ff0069c66be9c4da98fffa162d947b66", func := "loop.example/g00853/laws.FnExactUnseenNodes", spec := "fnExactUnseenNodes", unfollowed := true, recurses := true, apart := false }
def FnExactUnseenNodesSaid : Prop := fnExactUnseenNodesRow.holds Try.pinned (OpenSpec.ofChange fnExactUnseenNodesSpec)

/-- ITS FALSE NEIGHBOUR: 'it returns false'. Refute it at one input. -/
def fnExactUnseenNodesWrong : ChangeSpec := { name := "fnExactUnseenNodes", fn := fun _ => fun
  | [d] => { results := [.lit (.bool false)], args := [d] }
  | _ => none }
def FnExactUnseenNodesWrongFalsely : Prop := fnExactUnseenNodesRow.holds Try.pinned (OpenSpec.ofChange fnExactUnseenNodesWrong)

/-- 'laws.FnExactTakeReading': WHATEVER THE INPUT: true; the input reads as it did. -/
def fnExactTakeReadingSpec : ChangeSpec := { name := "fnExactTakeReading", fn := fun _ => fun
  | [d1, d2, d3] => { results := [.lit (.bool true)], args := [d1, d2, d3] }
  | _ => none }
def fnExactTakeReadingRow : OpenClaim := { program := "ytffemhhfflpdjaa", sum := "812f305b4eda534545f2e7ae81f18fc6ff0069c66be9c4da98fffa162d947b66", func := "loop.example/g00853/laws.FnExactTakeReading", spec := "fnExactTakeReading", inPlace := ["slices.overlaps[loop.example/g00853/impl.Alarm]"], unfollowed := true, recurses := true, apart := false }
def FnExactTakeReadingSaid : Prop := fnExactTakeReadingRow.holds Try.pinned (OpenSpec.ofChange fnExactTakeReadingSpec)

/-- ITS FALSE NEIGHBOUR: 'it returns false'. Refute it at one input. -/
def fnExactTakeReadingWrong : ChangeSpec := { name := "fnExactTakeReading", fn := fun _ => fun
  | [d1, d2, d3] => { results := [.lit (.bool false)], args := [d1, d2, d3] }
  | _ => none }
def FnExactTakeReadingWrongFalsely : Prop := fnExactTakeReadingRow.holds Try.pinned (OpenSpec.ofChange fnExactTakeReadingWrong)

/-- 'laws.FnExactTakeReadings': WHATEVER THE INPUT: true; the input reads as it did. -/
def fnExactTakeReadingsSpec : ChangeSpec := { name := "fnExactTakeReadings", fn := fun _ => fun
  | [d1, d2, d3] => { results := [.lit (.bool true)], args := [d1, d2, d3] }
  | _ => none }
def fnExactTakeReadingsRow : OpenClaim := { program := "ytffemhhfflpdjaa", sum := "812f305b4eda534545f2e7ae81f18fc6ff0069c66be9c4da98fffa162d947b66", func := "loop.example/g00853/laws.FnExactTakeReadings", spec := "fnExactTakeReadings", inPlace := ["slices.overlaps[loop.example/g00853/impl.Alarm]"], unfollowed := true, recurses := true, apart := false }
def FnExactTakeReadingsSaid : Prop := fnExactTakeReadingsRow.holds Try.pinned (OpenSpec.ofChange fnExactTakeReadingsSpec)

/-- ITS FALSE NEIGHBOUR: 'it returns false'. Refute it at one input. -/
def fnExactTakeReadingsWrong : ChangeSpec := { name := "fnExactTakeReadings", fn := fun _ => fun
  | [d1, d2, d3] => { results := [.lit (.bool false)], args := [d1, d2, d3] }
  | _ => none }
def FnExactTakeReadingsWrongFalsely : Prop := fnExactTakeReadingsRow.holds Try.pinned (OpenSpec.ofChange fnExactTakeReadingsWrong)

/- THE SECOND FORM. 'bulk': how many values and letters a reading holds, each counted each time it is reached (what is shared counts as often as it is met; a slice's spare places count too). A statement '..UptoSaid' is the law's where the arguments, and the package variables that the reading takes, are together of bulk at most 1048576: NARROWER than '..Said'. Prove '..Said' where nothing that the law and all that it calls make is longer than what came in: it says more and counts as full. Else prove '..UptoSaid'. A law counts once. -/
mutual
def uptoBulk {H : Type} : DataW H → Nat
  | .lit (.string bytes) => bytes.length + 1
  | .lit _ => 1
  | .nil => 1
  | .ptr d => uptoBulk d + 1
  | .slice elems spare => uptoBulkAll elems + uptoBulkAll spare + 1
  | .agg parts => uptoBulkAll parts + 1
  | .iface _ d => uptoBulk d + 1
  | .map entries => uptoBulkEntries entries + 1
  | .held _ => 1
def uptoBulkAll {H : Type} : List (DataW H) → Nat
  | [] => 0
  | d :: r => uptoBulk d + uptoBulkAll r
def uptoBulkEntries {H : Type} : List (Lit × DataW H) → Nat
  | [] => 0
  | x :: r => uptoBulkEntry x + uptoBulkEntries r
def uptoBulkEntry {H : Type} : Lit × DataW H → Nat
  | (.string bytes, d) => bytes.length + uptoBulk d + 1
  | (_, d) => uptoBulk d + 1
 end
def uptoSmall : (H : Type) → List (DataW H) → Bool := fun _ ds => decide (uptoBulkAll ds ≤ 1048576)
def OpenSpec.upto (s : _root_.Go.ChangeSpec) : _root_.Go.OpenSpec := { _root_.Go.OpenSpec.ofChange s with cond := some uptoSmall }

/-- 'laws.FnExactAreRules', WHERE WHAT IT READS IS OF BULK AT MOST 1048576: true; the input reads as it did. -/
def fnExactAreRulesUptoRow : OpenClaim := { program := "ytffemhhfflpdjaa", sum := "812f305b4eda534545f2e7ae81f18fc6ff0069c66be9c4da98fffa162d947b66", func := "loop.example/g00853/laws.FnExactAreRules", spec := "fnExactAreRules", apart := false, narrowed := true }
def FnExactAreRulesUptoSaid : Prop := fnExactAreRulesUptoRow.holds Try.pinned (OpenSpec.upto fnExactAreRulesSpec)

/-- 'laws.FnExactSeeAlarm', WHERE WHAT IT READS IS OF BULK AT MOST 1048576: true; the input reads as it did. -/
def fnExactSeeAlarmUptoRow : OpenClaim := { program := "ytffemhhfflpdjaa", sum := "812f305b4eda534545f2e7ae81f18fc6ff0069c66be9c4da98fffa162d947b66", func := "loop.example/g00853/laws.FnExactSeeAlarm", spec := "fnExactSeeAlarm", unfollowed := true, recurses := true, apart := false, narrowed := true }
def FnExactSeeAlarmUptoSaid : Prop := fnExactSeeAlarmUptoRow.holds Try.pinned (OpenSpec.upto fnExactSeeAlarmSpec)

/-- 'laws.FnExactAlarmHours', WHERE WHAT IT READS IS OF BULK AT MOST 1048576: true; the input reads as it did. -/
def fnExactAlarmHoursUptoRow : OpenClaim := { program := "ytffemhhfflpdjaa", sum := "812f305b4eda534545f2e7ae81f18fc6ff0069c66be9c4da98fffa162d947b66", func := "loop.example/g00853/laws.FnExactAlarmHours", spec := "fnExactAlarmHours", apart := false, narrowed := true }
def FnExactAlarmHoursUptoSaid : Prop := fnExactAlarmHoursUptoRow.holds Try.pinned (OpenSpec.upto fnExactAlarmHoursSpec)

/-- 'laws.FnExactUnseenNodes', WHERE WHAT IT READS IS OF BULK AT MOST 1048576: true; the input reads as it did. -/
def fnExactUnseenNodesUptoRow : OpenClaim := { program := "ytffemhhfflpdjaa", sum := "812f305b4eda534545f2e7ae81f18fc6ff0069c66be9c4da98fffa162d947b66", func := "loop.example/g00853/laws.FnExactUnseenNodes", spec := "fnExactUnseenNodes", unfollowed := true, recurses := true, apart := false, narrowed := true }
def FnExactUnseenNodesUptoSaid : Prop := fnExactUnseenNodesUptoRow.holds Try.pinned (OpenSpec.upto fnExactUnseenNodesSpec)

/-- 'laws.FnExactTakeReading', WHERE WHAT IT READS IS OF BULK AT MOST 1048576: true; the input reads as it did. -/
def fnExactTakeReadingUptoRow : OpenClaim := { program := "ytffemhhfflpdjaa", sum := "812f305b4eda534545f2e7ae81f18fc6ff0069c66be9c4da98fffa162d947b66", func := "loop.example/g00853/laws.FnExactTakeReading", spec := "fnExactTakeReading", inPlace := ["slices.overlaps[loop.example/g00853/impl.Alarm]"], unfollowed := true, recurses := true, apart := false, narrowed := true }
def FnExactTakeReadingUptoSaid : Prop := fnExactTakeReadingUptoRow.holds Try.pinned (OpenSpec.upto fnExactTakeReadingSpec)

/-- 'laws.FnExactTakeReadings', WHERE WHAT IT READS IS OF BULK AT MOST 1048576: true; the input reads as it did. -/
def fnExactTakeReadingsUptoRow : OpenClaim := { program := "ytffemhhfflpdjaa", sum := "812f305b4eda534545f2e7ae81f18fc6ff0069c66be9c4da98fffa162d947b66", func := "loop.example/g00853/laws.FnExactTakeReadings", spec := "fnExactTakeReadings", inPlace := ["slices.overlaps[loop.example/g00853/impl.Alarm]"], unfollowed := true, recurses := true, apart := false, narrowed := true }
def FnExactTakeReadingsUptoSaid : Prop := fnExactTakeReadingsUptoRow.holds Try.pinned (OpenSpec.upto fnExactTakeReadingsSpec)

end Rows
end Go.Proofs.Ytffemhhfflpdjaa
