/-
  No cell of these rows narrows 'for every input' (looked for: loops, veiled, ifaces, maps, wideKeys, modest, calm, conditions, laid).
  DERIVED. THE GIVEN ROWS OF THIS SEAT. 3 by the template 'for every input the law returns true; each argument reads behind the call as it read before'; 0 by the template 'total and deterministic' (their statements: YtkjgmppcgcimgaaTotals.lean).
  GIVEN WITH THE SEED: the statements are not yours to turn. If you find one false, say at which input.
  Laid BY PROGRAM, IN A SANDBOX (cutbox-rows.mjs): the forced cells as the released guide's own fill.sh prints them over the translation fec06616d0c5ad17… (all of the seat's roots in one cut). By AI agents, Wed Nov 11 2026. No macro, syntax, notation, axiom, sorry.
-/
import Derived.Test.YtkjgmppcgcimgaaChecked
import GoSem.Claim
import GoSem.ClaimJoined
import GoSem.ClaimMapViews
import Derived.JoinedTies
import Derived.KernelRfl
namespace Go.Proofs.Ytkjgmppcgcimgaa
/- THE CELL 'sum', in the pinned program and in every row, IS THE sha256 OF THE DUMP (.gsa) THAT YtkjgmppcgcimgaaProg.lean LOADS. Nothing in Lean hashes anything: it is a label: what it is worth is what the hold of that sum in a sandbox is worth. -/
noncomputable def Try.pinned : Pinned := { name := "ytkjgmppcgcimgaa", sum := "fec06616d0c5ad178f76c6723467ca351d58581fbe569bc55993d353dd38ba3c", checked := Try.checked }
namespace Rows
def none {H : Type} : Left H := { results := [], args := [] }

/-- 'laws.FnExactWalkSteps': WHATEVER THE INPUT: true; the input reads as it did. -/
def fnExactWalkStepsSpec : ChangeSpec := { name := "fnExactWalkSteps", fn := fun _ => fun
  | [d1, d2, d3] => { results := [.lit (.bool true)], args := [d1, d2, d3] }
  | _ => none }
def fnExactWalkStepsRow : OpenClaim := { program := "ytkjgmppcgcimgaa", sum := "fec06616d0c5ad178f76c6723467ca351d58581fbe569bc55993d353dd38ba3c", func := "loop.example/g00853/laws.FnExactWalkSteps", spec := "fnExactWalkSteps", unfollowed := true, recurses := true, apart := false }
def FnExactWalkStepsSaid : Prop := fnExactWalkStepsRow.holds Try.pinned (OpenSpec.ofChange fnExactWalkStepsSpec)

/-- ITS FALSE NEIGHBOUR: 'it returns false'. Refute it at one input. -/
def fnExactWalkStepsWrong : ChangeSpec := { name := "fnExactWalkSteps", fn := fun _ => fun
  | [d1, d2, d3] => { results := [.lit (.bool false)], args := [d1, d2, d3] }
  | _ => none }
def FnExactWalkStepsWrongFalsely : Prop := fnExactWalkStepsRow.holds Try.pinned (OpenSpec.ofChange fnExactWalkStepsWrong)

/-- 'laws.FnWalks': WHATEVER THE INPUT: true; the input reads as it did. -/
def fnWalksSpec : ChangeSpec := { name := "fnWalks", fn := fun _ => fun
  | [d] => { results := [.lit (.bool true)], args := [d] }
  | _ => none }
def fnWalksRow : OpenClaim := { program := "ytkjgmppcgcimgaa", sum := "fec06616d0c5ad178f76c6723467ca351d58581fbe569bc55993d353dd38ba3c", func := "loop.example/g00853/laws.FnWalks", spec := "fnWalks", unfollowed := true, recurses := true, apart := false }
def FnWalksSaid : Prop := fnWalksRow.holds Try.pinned (OpenSpec.ofChange fnWalksSpec)

/-- ITS FALSE NEIGHBOUR: 'it returns false'. Refute it at one input. -/
def fnWalksWrong : ChangeSpec := { name := "fnWalks", fn := fun _ => fun
  | [d] => { results := [.lit (.bool false)], args := [d] }
  | _ => none }
def FnWalksWrongFalsely : Prop := fnWalksRow.holds Try.pinned (OpenSpec.ofChange fnWalksWrong)

/-- 'laws.FnExactBestWalk': WHATEVER THE INPUT: true; the input reads as it did. -/
def fnExactBestWalkSpec : ChangeSpec := { name := "fnExactBestWalk", fn := fun _ => fun
  | [d1, d2, d3] => { results := [.lit (.bool true)], args := [d1, d2, d3] }
  | _ => none }
def fnExactBestWalkRow : OpenClaim := { program := "ytkjgmppcgcimgaa", sum := "fec06616d0c5ad178f76c6723467ca351d58581fbe569bc55993d353dd38ba3c", func := "loop.example/g00853/laws.FnExactBestWalk", spec := "fnExactBestWalk", unfollowed := true, recurses := true, apart := false }
def FnExactBestWalkSaid : Prop := fnExactBestWalkRow.holds Try.pinned (OpenSpec.ofChange fnExactBestWalkSpec)

/-- ITS FALSE NEIGHBOUR: 'it returns false'. Refute it at one input. -/
def fnExactBestWalkWrong : ChangeSpec := { name := "fnExactBestWalk", fn := fun _ => fun
  | [d1, d2, d3] => { results := [.lit (.bool false)], args := [d1, d2, d3] }
  | _ => none }
def FnExactBestWalkWrongFalsely : Prop := fnExactBestWalkRow.holds Try.pinned (OpenSpec.ofChange fnExactBestWalkWrong)

/- THE SECOND FORM. 'bulk': how many values and letters a reading holds, each counted each time it is reached (what is shared counts as often as it is met; a slice's spare places count too). A statement '..UptoSaid' is the law's where the arguments, and the package variables that the reading takes, are together of bulk at most 1048576: NARROWER than '..Said'. Prove '..Said' where nothing that the law and all that it calls make is longer than what came in: it says more and counts as full. Else prove '..UptoSaid'. A law counts once. -/
mutual
def uptoBulk {H : Type} : DataW H → Nat
  | .lit (.string bytes) => bytes.length + 1
  | .lit _ => 1
  | .nil => 1
  | .ptr d => uptoBulk d + 1
  | .slice elems spare => uptoBulkAll elems + uptoBulkAll spare + 1
  | .agg parts => uptoBulkAll parts + 1
  | .iface _ d => uptoBulk d + 1
  | .map entries => uptoBulkEntries entries + 1
  | .held _ => 1
def uptoBulkAll {H : Type} : List (DataW H) → Nat
  | [] => 0
  | d :: r => uptoBulk d + uptoBulkAll r
def uptoBulkEntries {H : Type} : List (Lit × DataW H) → Nat
  | [] => 0
  | x :: r => uptoBulkEntry x + uptoBulkEntries r
def uptoBulkEntry {H : Type} : Lit × DataW H → Nat
  | (.string bytes, d) => bytes.length + uptoBulk d + 1
  | (_, d) => uptoBulk d + 1
 end
def uptoSmall : (H : Type) → List (DataW H) → Bool := fun _ ds => decide (uptoBulkAll ds ≤ 1048576)
def OpenSpec.upto (s : _root_.Go.ChangeSpec) : _root_.Go.OpenSpec := { _root_.Go.OpenSpec.ofChange s with cond := some uptoSmall }

/-- 'laws.FnExactWalkSteps', WHERE WHAT IT READS IS OF BULK AT MOST 1048576: true; the input reads as it did. -/
def fnExactWalkStepsUptoRow : OpenClaim := { program := "ytkjgmppcgcimgaa", sum := "fec06616d0c5ad178f76c6723467ca351d58581fbe569bc55993d353dd38ba3c", func := "loop.example/g00853/laws.FnExactWalkSteps", spec := "fnExactWalkSteps", unfollowed := true, recurses := true, apart := false, narrowed := true }
def FnExactWalkStepsUptoSaid : Prop := fnExactWalkStepsUptoRow.holds Try.pinned (OpenSpec.upto fnExactWalkStepsSpec)

/-- 'laws.FnWalks', WHERE WHAT IT READS IS OF BULK AT MOST 1048576: true; the input reads as it did. -/
def fnWalksUptoRow : OpenClaim := { program := "ytkjgmppcgcimgaa", sum := "fec06616d0c5ad178f76c6723467ca351d58581fbe569bc55993d353dd38ba3c", func := "loop.example/g00853/laws.FnWalks", spec := "fnWalks", unfollowed := true, recurses := true, apart := false, narrowed := true }
def FnWalksUptoSaid : Prop := fnWalksUptoRow.holds Try.pinned (OpenSpec.upto fnWalksSpec)

/-- 'laws.FnExactBestWalk', WHERE WHAT IT READS IS OF BULK AT MOST 1048576: true; the input reads as it did. -/
def fnExactBestWalkUptoRow : OpenClaim := { program := "ytkjgmppcgcimgaa", sum := "fec06616d0c5ad178f76c6723467ca351d58581fbe569bc55993d353dd38ba3c", func := "loop.example/g00853/laws.FnExactBestWalk", spec := "fnExactBestWalk", unfollowed := true, recurses := true, apart := false, narrowed := true }
def FnExactBestWalkUptoSaid : Prop := fnExactBestWalkUptoRow.holds Try.pinned (OpenSpec.upto fnExactBestWalkSpec)

end Rows
end Go.Proofs.Ytkjgmppcgcimgaa
