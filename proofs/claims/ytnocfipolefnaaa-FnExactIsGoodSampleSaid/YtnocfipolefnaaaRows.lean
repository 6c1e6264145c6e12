/-
  No cell of these rows narrows 'for every input' (looked for: loops, veiled, ifaces, maps, wideKeys, modest, calm, conditions, laid).
  DERIVED. THE GIVEN ROWS OF THIS SEAT. 6 by the template 'for every input the law returns true; each argument reads behind the call as it read before'; 0 by the template 'total and deterministic' (their statements: YtnocfipolefnaaaTotals.lean).
  GIVEN WITH THE SEED: the statements are not yours to turn. If you find one false, say at which input.
  Laid BY PROGRAM, IN A SANDBOX (cutbox-rows.mjs): the forced cells as the released guide's own fill.sh prints them over the translation 42b8f4364a39193f… (all of the seat's roots in one cut). By AI agents, Wed Nov 11 2026. No macro, syntax, notation, axiom, sorry.
-/
import Derived.Test.YtnocfipolefnaaaChecked
import GoSem.Claim
import GoSem.ClaimJoined
import GoSem.ClaimMapViews
import Derived.JoinedTies
import Derived.KernelRfl
namespace Go.Proofs.Ytnocfipolefnaaa
/- THE CELL 'sum', in the pinned program and in every row, IS THE sha256 OF THE DUMP (.gsa) THAT YtnocfipolefnaaaProg.lean LOADS. Nothing in Lean hashes anything: it is a label: what it is worth is what the hold of that sum in a sandbox is worth. -/
noncomputable def Try.pinned : Pinned := { name := "ytnocfipolefnaaa", sum := "42b8f4364a39193f2e7dcfb531b77fcae3b8794a509194b457f79dfb55920f36", checked := Try.checked }
namespace Rows
def none {H : Type} : Left H := { results := [], args := [] }

/-- 'laws.FnExactIsValidSample': WHATEVER THE INPUT: true; the input reads as it did. -/
def fnExactIsValidSampleSpec : ChangeSpec := { name := "fnExactIsValidSample", fn := fun _ => fun
  | [d] => { results := [.lit (.bool true)], args := [d] }
  | _ => none }
def fnExactIsValidSampleRow : OpenClaim := { program := "ytnocfipolefnaaa", sum := "42b8f4364a39193f2e7dcfb531b77fcae3b8794a509194b457f79dfb55920f36", func := "loop.example/g00853/laws.FnExactIsValidSample", spec := "fnExactIsValidSample", apart := false }
def FnExactIsValidSampleSaid : Prop := fnExactIsValidSampleRow.holds Try.pinned (OpenSpec.ofChange fnExactIsValidSampleSpec)

/-- ITS FALSE NEIGHBOUR: 'it returns false'. Refute it at one input. -/
def fnExactIsValidSampleWrong : ChangeSpec := { name := "fnExactIsValidSample", fn := fun _ => fun
  | [d] => { results := [.lit (.bool false)], args := [d] }
  | _ => none }
def FnExactIsValidSampleWrongFalsely : Prop := fnExactIsValidSampleRow.holds Try.pinned (OpenSpec.ofChange fnExactIsValidSampleWrong)

/-- 'laws.FnExactIsGoodSample': WHATEVER THE INPUT: true; the input reads as it did. -/
def fnExactIsGoodSampleSpec : ChangeSpec := { name := "fnExactIsGoodSample", fn := fun _ => fun
  | [d] => { results := [.lit (.bool true)], args := [d] }
  | _ => none }
def fnExactIsGoodSampleRow : OpenClaim := { program := "ytnocfipolefnaaa", sum := "42b8f4364a39193f2e7dcfb531b77fcae3b8794a509194b457f79dfb55920f36", func := "loop.example/g00853/laws.FnExactIsGoodSample", spec := "fnExactIsGoodSample", apart := false }
def FnExactIsGoodSampleSaid : Prop := fnExactIsGoodSampleRow.holds Try.pinned (OpenSpec.ofChange fnExactIsGoodSampleSpec)

/-- ITS FALSE NEIGHBOUR: 'it returns false'. Refute it at one input. -/
def fnExactIsGoodSampleWrong : ChangeSpec := { name := "fnExactIsGoodSample", fn := fun _ => fun
  | [d] => { results := [.lit (.bool false)], args := [d] }
  | _ => none }
def FnExactIsGoodSampleWrongFalsely : Prop := fnExactIsGoodSampleRow.holds Try.pinned (OpenSpec.ofChange fnExactIsGoodSampleWrong)

/-- 'laws.FnExactKindAfter': WHATEVER THE INPUT: true; the input reads as it did. -/
def fnExactKindAfterSpec : ChangeSpec := { name := "fnExactKindAfter", fn := fun _ => fun
  | [d1, d2, d3] => { results := [.lit (.bool true)], args := [d1, d2, d3] }
  | _ => none }
def fnExactKindAfterRow : OpenClaim := { program := "ytnocfipolefnaaa", sum := "42b8f4364a39193f2e7dcfb531b77fcae3b8794a509194b457f79dfb55920f36", func := "loop.example/g00853/laws.FnExactKindAfter", spec := "fnExactKindAfter", apart := false }
def FnExactKindAfterSaid : Prop := fnExactKindAfterRow.holds Try.pinned (OpenSpec.ofChange fnExactKindAfterSpec)

/-- ITS FALSE NEIGHBOUR: 'it returns false'. Refute it at one input. -/
def fnExactKindAfterWrong : ChangeSpec := { name := "fnExactKindAfter", fn := fun _ => fun
  | [d1, d2, d3] => { results := [.lit (.bool false)], args := [d1, d2, d3] }
  | _ => none }
def FnExactKindAfterWrongFalsely : Prop := fnExactKindAfterRow.holds Try.pinned (OpenSpec.ofChange fnExactKindAfterWrong)

/-- 'laws.FnExactStoppedDays': WHATEVER THE INPUT: true; the input reads as it did. -/
def fnExactStoppedDaysSpec : ChangeSpec := { name := "fnExactStoppedDays", fn := fun _ => fun
  | [d] => { results := [.lit (.bool true)], args := [d] }
  | _ => none }
def fnExactStoppedDaysRow : OpenClaim := { program := "ytnocfipolefnaaa", sum := "42b8f4364a39193f2e7dcfb531b77fcae3b8794a509194b457f79dfb55920f36", func := "loop.example/g00853/laws.FnExactStoppedDays", spec := "fnExactStoppedDays", apart := false }
def FnExactStoppedDaysSaid : Prop := fnExactStoppedDaysRow.holds Try.pinned (OpenSpec.ofChange fnExactStoppedDaysSpec)

/-- ITS FALSE NEIGHBOUR: 'it returns false'. Refute it at one input. -/
def fnExactStoppedDaysWrong : ChangeSpec := { name := "fnExactStoppedDays", fn := fun _ => fun
  | [d] => { results := [.lit (.bool false)], args := [d] }
  | _ => none }
def FnExactStoppedDaysWrongFalsely : Prop := fnExactStoppedDaysRow.holds Try.pinned (OpenSpec.ofChange fnExactStoppedDaysWrong)

/-- 'laws.FnExactOpenCents': WHATEVER THE INPUT: true; the input reads as it did. -/
def fnExactOpenCentsSpec : ChangeSpec := { name := "fnExactOpenCents", fn := fun _ => fun
  | [d] => { results := [.lit (.bool true)], args := [d] }
  | _ => none }
def fnExactOpenCentsRow : OpenClaim := { program := "ytnocfipolefnaaa", sum := "42b8f4364a39193f2e7dcfb531b77fcae3b8794a509194b457f79dfb55920f36", func := "loop.example/g00853/laws.FnExactOpenCents", spec := "fnExactOpenCents", apart := false }
def FnExactOpenCentsSaid : Prop := fnExactOpenCentsRow.holds Try.pinned (OpenSpec.ofChange fnExactOpenCentsSpec)

/-- ITS FALSE NEIGHBOUR: 'it returns false'. Refute it at one input. -/
def fnExactOpenCentsWrong : ChangeSpec := { name := "fnExactOpenCents", fn := fun _ => fun
  | [d] => { results := [.lit (.bool false)], args := [d] }
  | _ => none }
def FnExactOpenCentsWrongFalsely : Prop := fnExactOpenCentsRow.holds Try.pinned (OpenSpec.ofChange fnExactOpenCentsWrong)

/-- 'laws.FnExactTotalUse': WHATEVER THE INPUT: true; the input reads as it did. -/
def fnExactTotalUseSpec : ChangeSpec := { name := "fnExactTotalUse", fn := fun _ => fun
  | [d] => { results := [.lit (.bool true)], args := [d] }
  | _ => none }
def fnExactTotalUseRow : OpenClaim := { program := "ytnocfipolefnaaa", sum := "42b8f4364a39193f2e7dcfb531b77fcae3b8794a509194b457f79dfb55920f36", func := "loop.example/g00853/laws.FnExactTotalUse", spec := "fnExactTotalUse", apart := false }
def FnExactTotalUseSaid : Prop := fnExactTotalUseRow.holds Try.pinned (OpenSpec.ofChange fnExactTotalUseSpec)

/-- ITS FALSE NEIGHBOUR: 'it returns false'. Refute it at one input. -/
def fnExactTotalUseWrong : ChangeSpec := { name := "fnExactTotalUse", fn := fun _ => fun
  | [d] => { results := [.lit (.bool false)], args := [d] }
  | _ => none }
def FnExactTotalUseWrongFalsely : Prop := fnExactTotalUseRow.holds Try.pinned (OpenSpec.ofChange fnExactTotalUseWrong)

/- THE SECOND FORM. 'bulk': how many values and letters a reading holds, each counted each time it is reached (what is shared counts as often as it is met; a slice's spare places count too). A statement '..UptoSaid' is the law's where the arguments, and the package variables that the reading takes, are together of bulk at most 1048576: NARROWER than '..Said'. Prove '..Said' where nothing that the law and all that it calls make is longer than what came in: it says more and counts as full. Else prove '..UptoSaid'. A law counts once. -/
mutual
def uptoBulk {H : Type} : DataW H → Nat
  | .lit (.string bytes) => bytes.length + 1
  | .lit _ => 1
  | .nil => 1
  | .ptr d => uptoBulk d + 1
  | .slice elems spare => uptoBulkAll elems + uptoBulkAll spare + 1
  | .agg parts => uptoBulkAll parts + 1
  | .iface _ d => uptoBulk d + 1
  | .map entries => uptoBulkEntries entries + 1
  | .held _ => 1
def uptoBulkAll {H : Type} : List (DataW H) → Nat
  | [] => 0
  | d :: r => uptoBulk d + uptoBulkAll r
def uptoBulkEntries {H : Type} : List (Lit × DataW H) → Nat
  | [] => 0
  | x :: r => uptoBulkEntry x + uptoBulkEntries r
def uptoBulkEntry {H : Type} : Lit × DataW H → Nat
  | (.string bytes, d) => bytes.length + uptoBulk d + 1
  | (_, d) => uptoBulk d + 1
 end
def uptoSmall : (H : Type) → List (DataW H) → Bool := fun _ ds => decide (uptoBulkAll ds ≤ 1048576)
def OpenSpec.upto (s : _root_.Go.ChangeSpec) : _root_.Go.OpenSpec := { _root_.Go.OpenSpec.ofChange s with cond := some uptoSmall }

/-- 'laws.FnExactIsValidSample', WHERE WHAT IT READS IS OF BULK AT MOST 1048576: true; the input reads as it did. -/
def fnExactIsValidSampleUptoRow : OpenClaim := { program := "ytnocfipolefnaaa", sum := "42b8f4364a39193f2e7dcfb531b77fcae3b8794a509194b457f79dfb55920f36", func := "loop.example/g00853/laws.FnExactIsValidSample", spec := "fnExactIsValidSample", apart := false, narrowed := true }
def FnExactIsValidSampleUptoSaid : Prop := fnExactIsValidSampleUptoRow.holds Try.pinned (OpenSpec.upto fnExactIsValidSampleSpec)

/-- 'laws.FnExactIsGoodSample', WHERE WHAT IT READS IS OF BULK AT MOST 1048576: true; the input reads as it did. -/
def fnExactIsGoodSampleUptoRow : OpenClaim := { program := "ytnocfipolefnaaa", sum := "42b8f4364a39193f2e7dcfb531b77fcae3b8794a509194b457f79dfb55920f36", func := "loop.example/g00853/laws.FnExactIsGoodSample", spec := "fnExactIsGoodSample", apart := false, narrowed := true }
def FnExactIsGoodSampleUptoSaid : Prop := fnExactIsGoodSampleUptoRow.holds Try.pinned (OpenSpec.upto fnExactIsGoodSampleSpec)

/-- 'laws.FnExactKindAfter', WHERE WHAT IT READS IS OF BULK AT MOST 1048576: true; the input reads as it did. -/
def fnExactKindAfterUptoRow : OpenClaim := { program := "ytnocfipolefnaaa", sum := "42b8f4364a39193f2e7dcfb531b77fcae3b8794a509194b457f79dfb55920f36", func := "loop.example/g00853/laws.FnExactKindAfter", spec := "fnExactKindAfter", apart := false, narrowed := true }
def FnExactKindAfterUptoSaid : Prop := fnExactKindAfterUptoRow.holds Try.pinned (OpenSpec.upto fnExactKindAfterSpec)

/-- 'laws.FnExactStoppedDays', WHERE WHAT IT READS IS OF BULK AT MOST 1048576: true; the input reads as it did. -/
def fnExactStoppedDaysUptoRow : OpenClaim := { program := "ytnocfipolefnaaa", sum := "42b8f4364a39193f2e7dcfb531b77fcae3b8794a509194b457f79dfb55920f36", func := "loop.example/g00853/laws.FnExactStoppedDays", spec := "fnExactStoppedDays", apart := false, narrowed := true }
def FnExactStoppedDaysUptoSaid : Prop := fnExactStoppedDaysUptoRow.holds Try.pinned (OpenSpec.upto fnExactStoppedDaysSpec)

/-- 'laws.FnExactOpenCents', WHERE WHAT IT READS IS OF BULK AT MOST 1048576: true; the input reads as it did. -/
def fnExactOpenCentsUptoRow : OpenClaim := { program := "ytnocfipolefnaaa", sum := "42b8f4364a39193f2e7dcfb531b77fcae3b8794a509194b457f79dfb55920f36", func := "loop.example/g00853/laws.FnExactOpenCents", spec := "fnExactOpenCents", apart := false, narrowed := true }
def FnExactOpenCentsUptoSaid : Prop := fnExactOpenCentsUptoRow.holds Try.pinned (OpenSpec.upto fnExactOpenCentsSpec)

/-- 'laws.FnExactTotalUse', WHERE WHAT IT READS IS OF BULK AT MOST 1048576: true; the input reads as it did. -/
def fnExactTotalUseUptoRow : OpenClaim := { program := "ytnocfipolefnaaa", sum := "42b8f4364a39193f2e7dcfb531b77fcae3b8794a509194b457f79dfb55920f36", func := "loop.example/g00853/laws.FnExactTotalUse", spec := "fnExactTotalUse", apart := false, narrowed := true }
def FnExactTotalUseUptoSaid : Prop := fnExactTotalUseUptoRow.holds Try.pinned (OpenSpec.upto fnExactTotalUseSpec)

end Rows
end Go.Proofs.Ytnocfipolefnaaa
