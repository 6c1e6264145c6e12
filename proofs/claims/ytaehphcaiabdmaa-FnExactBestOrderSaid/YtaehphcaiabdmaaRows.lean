/-
  No cell of these rows narrows 'for every input' (looked for: loops, veiled, ifaces, maps, wideKeys, modest, calm, conditions, laid).
  DERIVED. THE GIVEN ROWS OF THIS SEAT. 8 by the template 'for every input the law returns true; each argument reads behind the call as it read before'; 0 by the template 'total and deterministic' (their statements: YtaehphcaiabdmaaTotals.lean).
  GIVEN WITH THE SEED: the statements are not yours to turn. If you find one false, say at which input.
  Laid BY PROGRAM, IN A SANDBOX (cutbox-rows.mjs): the forced cells as the released guide's own fill.sh prints them over the translation 0368c82dc9e8171d… (all of the seat's roots in one cut). By AI agents, Wed Nov 11 2026. No macro, syntax, notation, axiom, sorry.
-/
import Derived.Test.YtaehphcaiabdmaaChecked
import GoSem.Claim
import GoSem.ClaimJoined
import GoSem.ClaimMapViews
import Derived.JoinedTies
import Derived.KernelRfl
namespace Go.Proofs.Ytaehphcaiabdmaa
/- THE CELL 'sum', in the pinned program and in every row, IS THE sha256 OF THE DUMP (.gsa) THAT YtaehphcaiabdmaaProg.lean LOADS. Nothing in Lean hashes anything: it is a label: what it is worth is what the hold of that sum in a sandbox is worth. -/
noncomputable def Try.pinned : Pinned := { name := "ytaehphcaiabdmaa", sum := "0368c82dc9e8171da72c22dcb41d92b9573f043377166c756762bcd4a90729a1", checked := Try.checked }
namespace Rows
def none {H : Type} : Left H := { results := [], args := [] }

/-- 'laws.FnExactStillDry': WHATEVER THE INPUT: true; the input reads as it did. -/
def fnExactStillDrySpec : ChangeSpec := { name := "fnExactStillDry", fn := fun _ => fun
  | [d1, d2, d3] => { results := [.lit (.bool true)], args := [d1, d2, d3] }
  | _ => none }
def fnExactStillDryRow : OpenClaim := { program := "ytaehphcaiabdmaa", sum := "0368c82dc9e8171da72c22dcb41d92b9573f043377166c756762bcd4a90729a1", func := "loop.example/g00853/laws.FnExactStillDry", spec := "fnExactStillDry", unfollowed := true, recurses := true, apart := false }
def FnExactStillDrySaid : Prop := fnExactStillDryRow.holds Try.pinned (OpenSpec.ofChange fnExactStillDrySpec)

/-- ITS FALSE NEIGHBOUR: 'it returns false'. Refute it at one input. -/
def fnExactStillDryWrong : ChangeSpec := { name := "fnExactStillDry", fn := fun _ => fun
  | [d1, d2, d3] => { results := [.lit (.bool false)], args := [d1, d2, d3] }
  | _ => none }
def FnExactStillDryWrongFalsely : Prop := fnExactStillDryRow.holds Try.pinned (OpenSpec.ofChange fnExactStillDryWrong)

/-- 'laws.FnExactUsefulValves': WHATEVER THE INPUT: true; the input reads as it did. -/
def fnExactUsefulValvesSpec : ChangeSpec := { name := "fnExactUsefulValves", fn := fun _ => fun
  | [d1, d2, d3] => { results := [.lit (.bool true)], args := [d1, d2, d3] }
  | _ => none }
def fnExactUsefulValvesRow : OpenClaim := { program := "ytaehphcaiabdmaa", sum := "0368c82dc9e8171da72c22dcb41d92b9573f043377166c756762bcd4a90729a1", func := "loop.example/g00853/laws.FnExactUsefulValves", spec := "fnExactUsefulValves", unfollowed := true, recurses := true, apart := false }
def FnExactUsefulValvesSaid : Prop := fnExactUsefulValvesRow.holds Try.pinned (OpenSpec.ofChange fnExactUsefulValvesSpec)

/-- ITS FALSE NEIGHBOUR: 'it returns false'. Refute it at one input. -/
def fnExactUsefulValvesWrong : ChangeSpec := { name := "fnExactUsefulValves", fn := fun _ => fun
  | [d1, d2, d3] => { results := [.lit (.bool false)], args := [d1, d2, d3] }
  | _ => none }
def FnExactUsefulValvesWrongFalsely : Prop := fnExactUsefulValvesRow.holds Try.pinned (OpenSpec.ofChange fnExactUsefulValvesWrong)

/-- 'laws.FnExactQuickestOrder': WHATEVER THE INPUT: true; the input reads as it did. -/
def fnExactQuickestOrderSpec : ChangeSpec := { name := "fnExactQuickestOrder", fn := fun _ => fun
  | [d1, d2, d3, d4] => { results := [.lit (.bool true)], args := [d1, d2, d3, d4] }
  | _ => none }
def fnExactQuickestOrderRow : OpenClaim := { program := "ytaehphcaiabdmaa", sum := "0368c82dc9e8171da72c22dcb41d92b9573f043377166c756762bcd4a90729a1", func := "loop.example/g00853/laws.FnExactQuickestOrder", spec := "fnExactQuickestOrder", unfollowed := true, recurses := true, apart := false }
def FnExactQuickestOrderSaid : Prop := fnExactQuickestOrderRow.holds Try.pinned (OpenSpec.ofChange fnExactQuickestOrderSpec)

/-- ITS FALSE NEIGHBOUR: 'it returns false'. Refute it at one input. -/
def fnExactQuickestOrderWrong : ChangeSpec := { name := "fnExactQuickestOrder", fn := fun _ => fun
  | [d1, d2, d3, d4] => { results := [.lit (.bool false)], args := [d1, d2, d3, d4] }
  | _ => none }
def FnExactQuickestOrderWrongFalsely : Prop := fnExactQuickestOrderRow.holds Try.pinned (OpenSpec.ofChange fnExactQuickestOrderWrong)

/-- 'laws.FnExactBestOrder': WHATEVER THE INPUT: true; the input reads as it did. -/
def fnExactBestOrderSpec : ChangeSpec := { name := "fnExactBestOrder", fn := fun _ => fun
  | [d1, d2, d3, d4] => { results := [.lit (.bool true)], args := [d1, d2, d3, d4] }
  | _ => none }
def fnExactBestOrderRow : OpenClaim := { program := "ytaehphcaiabdmaa", sum := "0368c82dc9e8171da72c22dcb41d92b9573f043377166c756762bcd4a90729a1", func := "loop.example/g00853/laws.FnExactBestOrder", spec := "fnExactBestOrder", unfollowed := true, recurses := true, apart := false }
def FnExactBestOrderSaid : Prop := fnExactBestOrderRow.holds Try.pinned (OpenSpec.ofChange fnExactBestOrderSpec)

/-- ITS FALSE NEIGHBOUR: 'it returns false'. Refute it at one input. -/
def fnExactBestOrderWrong : ChangeSpec := { name := "fnExactBestOrder", fn := fun _ => fun
  | [d1, d2, d3, d4] => { results := [.lit (.bool false)], args := [d1, d2, d3, d4] }
  | _ => none }
def FnExactBestOrderWrongFalsely : Prop := fnExactBestOrderRow.holds Try.pinned (OpenSpec.ofChange fnExactBestOrderWrong)

/-- 'laws.FnExactIsOrder': WHATEVER THE INPUT: true; the input reads as it did. -/
def fnExactIsOrderSpec : ChangeSpec := { name := "fnExactIsOrder", fn := fun _ => fun
  | [d1, d2, d3, d4] => { results := [.lit (.bool true)], args := [d1, d2, d3, d4] }
  | _ => none }
def fnExactIsOrderRow : OpenClaim := { program := "ytaehphcaiabdmaa", sum := "0368c82dc9e8171da72c22dcb41d92b9573f043377166c756762bcd4a90729a1", func := "loop.example/g00853/laws.FnExactIsOrder", spec := "fnExactIsOrder", unfollowed := true, recurses := true, apart := false }
def FnExactIsOrderSaid : Prop := fnExactIsOrderRow.holds Try.pinned (OpenSpec.ofChange fnExactIsOrderSpec)

/-- ITS FALSE NEIGHBOUR: 'it returns false'. Refute it at one input. -/
def fnExactIsOrderWrong : ChangeSpec := { name := "fnExactIsOrder", fn := fun _ => fun
  | [d1, d2, d3, d4] => { results := [.lit (.bool false)], args := [d1, d2, d3, d4] }
  | _ => none }
def FnExactIsOrderWrongFalsely : Prop := fnExactIsOrderRow.holds Try.pinned (OpenSpec.ofChange fnExactIsOrderWrong)

/-- 'laws.FnExactIsGentle': WHATEVER THE INPUT: true; the input reads as it did. -/
def fnExactIsGentleSpec : ChangeSpec := { name := "fnExactIsGentle", fn := fun _ => fun
  | [d1, d2, d3, d4] => { results := [.lit (.bool true)], args := [d1, d2, d3, d4] }
  | _ => none }
def fnExactIsGentleRow : OpenClaim := { program := "ytaehphcaiabdmaa", sum := "0368c82dc9e8171da72c22dcb41d92b9573f043377166c756762bcd4a90729a1", func := "loop.example/g00853/laws.FnExactIsGentle", spec := "fnExactIsGentle", unfollowed := true, recurses := true, apart := false }
def FnExactIsGentleSaid : Prop := fnExactIsGentleRow.holds Try.pinned (OpenSpec.ofChange fnExactIsGentleSpec)

/-- ITS FALSE NEIGHBOUR: 'it returns false'. Refute it at one input. -/
def fnExactIsGentleWrong : ChangeSpec := { name := "fnExactIsGentle", fn := fun _ => fun
  | [d1, d2, d3, d4] => { results := [.lit (.bool false)], args := [d1, d2, d3, d4] }
  | _ => none }
def FnExactIsGentleWrongFalsely : Prop := fnExactIsGentleRow.holds Try.pinned (OpenSpec.ofChange fnExactIsGentleWrong)

/-- 'laws.FnExactWaitingOf': WHATEVER THE INPUT: true; the input reads as it did. -/
def fnExactWaitingOfSpec : ChangeSpec := { name := "fnExactWaitingOf", fn := fun _ => fun
  | [d1, d2, d3, d4, d5] => { results := [.lit (.bool true)], args := [d1, d2, d3, d4, d5] }
  | _ => none }
def fnExactWaitingOfRow : OpenClaim := { program := "ytaehphcaiabdmaa", sum := "0368c82dc9e8171da72c22dcb41d92b9573f043377166c756762bcd4a90729a1", func := "loop.example/g00853/laws.FnExactWaitingOf", spec := "fnExactWaitingOf", unfollowed := true, recurses := true, apart := false }
def FnExactWaitingOfSaid : Prop := fnExactWaitingOfRow.holds Try.pinned (OpenSpec.ofChange fnExactWaitingOfSpec)

/-- ITS FALSE NEIGHBOUR: 'it returns false'. Refute it at one input. -/
def fnExactWaitingOfWrong : ChangeSpec := { name := "fnExactWaitingOf", fn := fun _ => fun
  | [d1, d2, d3, d4, d5] => { results := [.lit (.bool false)], args := [d1, d2, d3, d4, d5] }
  | _ => none }
def FnExactWaitingOfWrongFalsely : Prop := fnExactWaitingOfRow.holds Try.pinned (OpenSpec.ofChange fnExactWaitingOfWrong)

/-- 'laws.FnExactNewlyWet': WHATEVER THE INPUT: true; the input reads as it did. -/
def fnExactNewlyWetSpec : ChangeSpec := { name := "fnExactNewlyWet", fn := fun _ => fun
  | [d1, d2, d3, d4] => { results := [.lit (.bool true)], args := [d1, d2, d3, d4] }
  | _ => none }
def fnExactNewlyWetRow : OpenClaim := { program := "ytaehphcaiabdmaa", sum := "0368c82dc9e8171da72c22dcb41d92b9573f043377166c756762bcd4a90729a1", func := "loop.example/g00853/laws.FnExactNewlyWet", spec := "fnExactNewlyWet", unfollowed := true, recurses := true, apart := false }
def FnExactNewlyWetSaid : Prop := fnExactNewlyWetRow.holds Try.pinned (OpenSpec.ofChange fnExactNewlyWetSpec)

/-- ITS FALSE NEIGHBOUR: 'it returns false'. Refute it at one input. -/
def fnExactNewlyWetWrong : ChangeSpec := { name := "fnExactNewlyWet", fn := fun _ => fun
  | [d1, d2, d3, d4] => { results := [.lit (.bool false)], args := [d1, d2, d3, d4] }
  | _ => none }
def FnExactNewlyWetWrongFalsely : Prop := fnExactNewlyWetRow.holds Try.pinned (OpenSpec.ofChange fnExactNewlyWetWrong)

/- THE SECOND FORM. 'bulk': how many values and letters a reading holds, each counted each time it is reached (what is shared counts as often as it is met; a slice's spare places count too). A statement '..UptoSaid' is the law's where the arguments, and the package variables that the reading takes, are together of bulk at most 1048576: NARROWER than '..Said'. Prove '..Said' where nothing that the law and all that it calls make is longer than what came in: it says more and counts as full. Else prove '..UptoSaid'. A law counts once. -/
mutual
def uptoBulk {H : Type} : DataW H → Nat
  | .lit (.string bytes) => bytes.length + 1
  | .lit _ => 1
  | .nil => 1
  | .ptr d => uptoBulk d + 1
  | .slice elems spare => uptoBulkAll elems + uptoBulkAll spare + 1
  | .agg parts => uptoBulkAll parts + 1
  | .iface _ d => uptoBulk d + 1
  | .map entries => uptoBulkEntries entries + 1
  | .held _ => 1
def uptoBulkAll {H : Type} : List (DataW H) → Nat
  | [] => 0
  | d :: r => uptoBulk d + uptoBulkAll r
def uptoBulkEntries {H : Type} : List (Lit × DataW H) → Nat
  | [] => 0
  | x :: r => uptoBulkEntry x + uptoBulkEntries r
def uptoBulkEntry {H : Type} : Lit × DataW H → Nat
  | (.string bytes, d) => bytes.length + uptoBulk d + 1
  | (_, d) => uptoBulk d + 1
 end
def uptoSmall : (H : Type) → List (DataW H) → Bool := fun _ ds => decide (uptoBulkAll ds ≤ 1048576)
def OpenSpec.upto (s : _root_.Go.ChangeSpec) : _root_.Go.OpenSpec := { _root_.Go.OpenSpec.ofChange s with cond := some uptoSmall }

/-- 'laws.FnExactStillDry', WHERE WHAT IT READS IS OF BULK AT MOST 1048576: true; the input reads as it did. -/
def fnExactStillDryUptoRow : OpenClaim := { program := "ytaehphcaiabdmaa", sum := "0368c82dc9e8171da72c22dcb41d92b9573f043377166c756762bcd4a90729a1", func := "loop.example/g00853/laws.FnExactStillDry", spec := "fnExactStillDry", unfollowed := true, recurses := true, apart := false, narrowed := true }
def FnExactStillDryUptoSaid : Prop := fnExactStillDryUptoRow.holds Try.pinned (OpenSpec.upto fnExactStillDrySpec)

/-- 'laws.FnExactUsefulValves', WHERE WHAT IT READS IS OF BULK AT MOST 1048576: true; the input reads as it did. -/
def fnExactUsefulValvesUptoRow : OpenClaim := { program := "ytaehphcaiabdmaa", sum := "0368c82dc9e8171da72c22dcb41d92b9573f043377166c756762bcd4a90729a1", func := "loop.example/g00853/laws.FnExactUsefulValves", spec := "fnExactUsefulValves", unfollowed := true, recurses := true, apart := false, narrowed := true }
def FnExactUsefulValvesUptoSaid : Prop := fnExactUsefulValvesUptoRow.holds Try.pinned (OpenSpec.upto fnExactUsefulValvesSpec)

/-- 'laws.FnExactQuickestOrder', WHERE WHAT IT READS IS OF BULK AT MOST 1048576: true; the input reads as it did. -/
def fnExactQuickestOrderUptoRow : OpenClaim := { program := "ytaehphcaiabdmaa", sum := "0368c82dc9e8171da72c22dcb41d92b9573f043377166c756762bcd4a90729a1", func := "loop.example/g00853/laws.FnExactQuickestOrder", spec := "fnExactQuickestOrder", unfollowed := true, recurses := true, apart := false, narrowed := true }
def FnExactQuickestOrderUptoSaid : Prop := fnExactQuickestOrderUptoRow.holds Try.pinned (OpenSpec.upto fnExactQuickestOrderSpec)

/-- 'laws.FnExactBestOrder', WHERE WHAT IT READS IS OF BULK AT MOST 1048576: true; the input reads as it did. -/
def fnExactBestOrderUptoRow : OpenClaim := { program := "ytaehphcaiabdmaa", sum := "0368c82dc9e8171da72c22dcb41d92b9573f043377166c756762bcd4a90729a1", func := "loop.example/g00853/laws.FnExactBestOrder", spec := "fnExactBestOrder", unfollowed := true, recurses := true, apart := false, narrowed := true }
def FnExactBestOrderUptoSaid : Prop := fnExactBestOrderUptoRow.holds Try.pinned (OpenSpec.upto fnExactBestOrderSpec)

/-- 'laws.FnExactIsOrder', WHERE WHAT IT READS IS OF BULK AT MOST 1048576: true; the input reads as it did. -/
def fnExactIsOrderUptoRow : OpenClaim := { program := "ytaehphcaiabdmaa", sum := "0368c82dc9e8171da72c22dcb41d92b9573f043377166c756762bcd4a90729a1", func := "loop.example/g00853/laws.FnExactIsOrder", spec := "fnExactIsOrder", unfollowed := true, recurses := true, apart := false, narrowed := true }
def FnExactIsOrderUptoSaid : Prop := fnExactIsOrderUptoRow.holds Try.pinned (OpenSpec.upto fnExactIsOrderSpec)

/-- 'laws.FnExactIsGentle', WHERE WHAT IT READS IS OF BULK AT MOST 1048576: true; the input reads as it did. -/
def fnExactIsGentleUptoRow : OpenClaim := { program := "ytaehphcaiabdmaa", sum := "0368c82dc9e8171da72c22dcb41d92b9573f043377166c756762bcd4a90729a1", func := "loop.example/g00853/laws.FnExactIsGentle", spec := "fnExactIsGentle", unfollowed := true, recurses := true, apart := false, narrowed := true }
def FnExactIsGentleUptoSaid : Prop := fnExactIsGentleUptoRow.holds Try.pinned (OpenSpec.upto fnExactIsGentleSpec)

/-- 'laws.FnExactWaitingOf', WHERE WHAT IT READS IS OF BULK AT MOST 1048576: true; the input reads as it did. -/
def fnExactWaitingOfUptoRow : OpenClaim := { program := "ytaehphcaiabdmaa", sum := "0368c82dc9e8171da72c22dcb41d92b9573f043377166c756762bcd4a90729a1", func := "loop.example/g00853/laws.FnExactWaitingOf", spec := "fnExactWaitingOf", unfollowed := true, recurses := true, apart := false, narrowed := true }
def FnExactWaitingOfUptoSaid : Prop := fnExactWaitingOfUptoRow.holds Try.pinned (OpenSpec.upto fnExactWaitingOfSpec)

/-- 'laws.FnExactNewlyWet', WHERE WHAT IT READS IS OF BULK AT MOST 1048576: true; the input reads as it did. -/
def fnExactNewlyWetUptoRow : OpenClaim := { program := "ytaehphcaiabdmaa", sum := "0368c82dc9e8171da72c22dcb41d92b9573f043377166c756762bcd4a90729a1", func := "loop.example/g00853/laws.FnExactNewlyWet", spec := "fnExactNewlyWet", unfollowed := true, recurses := true, apart := false, narrowed := true }
def FnExactNewlyWetUptoSaid : Prop := fnExactNewlyWetUptoRow.holds Try.pinned (OpenSpec.upto fnExactNewlyWetSpec)

end Rows
end Go.Proofs.Ytaehphcaiabdmaa
