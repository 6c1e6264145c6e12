/-
  No cell of these rows narrows 'for every input' (looked for: loops, veiled, ifaces, maps, wideKeys, modest, calm, conditions, laid).
  DERIVED. THE GIVEN ROWS OF THIS SEAT. 3 by the template 'for every input the law returns true; each argument reads behind the call as it read before'; 0 by the template 'total and deterministic' (their statements: YtappbdfieccfeaaTotals.lean).
  GIVEN WITH THE SEED: the statements are not yours to turn. If you find one false, say at which input.
  Laid BY PROGRAM, IN A SANDBOX (cutbox-rows.mjs): the forced cells as the released guide's own fill.sh prints them over the translation 4c21ba9ea0251e5c… (all of the seat's roots in one cut). By AI agents, Wed Nov 11 2026. No macro, syntax, notation, axiom, sorry.
-/
import Derived.Test.YtappbdfieccfeaaChecked
import GoSem.Claim
import GoSem.ClaimJoined
import GoSem.ClaimMapViews
import Derived.JoinedTies
import Derived.KernelRfl
namespace Go.Proofs.Ytappbdfieccfeaa
/- THE CELL 'sum', in the pinned program and in every row, IS THE sha256 OF THE DUMP (.gsa) THAT YtappbdfieccfeaaProg.lean LOADS. Nothing in Lean hashes anything: it is a label: what it is worth is what the hold of that sum in a sandbox is worth. -/
noncomputable def Try.pinned : Pinned := { name := "ytappbdfieccfeaa", sum := "4c21ba9ea0251e5c94e33b25b92b4fb00fb67e94d214b2c891fc3c2a006a20c7", checked := Try.checked }
namespace Rows
def none {H : Type} : Left H := { results := [], args := [] }

/-- 'laws.FnExactRefundBill': WHATEVER THE INPUT: true; the input reads as it did. -/
def fnExactRefundBillSpec : ChangeSpec := { name := "fnExactRefundBill", fn := fun _ => fun
  | [d1, d2] => { results := [.lit (.bool true)], args := [d1, d2] }
  | _ => none }
def fnExactRefundBillRow : OpenClaim := { program := "ytappbdfieccfeaa", sum := "4c21ba9ea0251e5c94e33b25b92b4fb00fb67e94d214b2c891fc3c2a006a20c7", func := "loop.example/g00853/laws.FnExactRefundBill", spec := "fnExactRefundBill", unfollowed := true, recurses := true, apart := false }
def FnExactRefundBillSaid : Prop := fnExactRefundBillRow.holds Try.pinned (OpenSpec.ofChange fnExactRefundBillSpec)

/-- ITS FALSE NEIGHBOUR: 'it returns false'. Refute it at one input. -/
def fnExactRefundBillWrong : ChangeSpec := { name := "fnExactRefundBill", fn := fun _ => fun
  | [d1, d2] => { results := [.lit (.bool false)], args := [d1, d2] }
  | _ => none }
def FnExactRefundBillWrongFalsely : Prop := fnExactRefundBillRow.holds Try.pinned (OpenSpec.ofChange fnExactRefundBillWrong)

/-- 'laws.FnExactMakeBill': WHATEVER THE INPUT: true; the input reads as it did. -/
def fnExactMakeBillSpec : ChangeSpec := { name := "fnExactMakeBill", fn := fun _ => fun
  | [d1, d2, d3, d4] => { results := [.lit (.bool true)], args := [d1, d2, d3, d4] }
  | _ => none }
def fnExactMakeBillRow : OpenClaim := { program := "ytappbdfieccfeaa", sum := "4c21ba9ea0251e5c94e33b25b92b4fb00fb67e94d214b2c891fc3c2a006a20c7", func := "loop.example/g00853/laws.FnExactMakeBill", spec := "fnExactMakeBill", apart := false }
def FnExactMakeBillSaid : Prop := fnExactMakeBillRow.holds Try.pinned (OpenSpec.ofChange fnExactMakeBillSpec)

/-- ITS FALSE NEIGHBOUR: 'it returns false'. Refute it at one input. -/
def fnExactMakeBillWrong : ChangeSpec := { name := "fnExactMakeBill", fn := fun _ => fun
  | [d1, d2, d3, d4] => { results := [.lit (.bool false)], args := [d1, d2, d3, d4] }
  | _ => none }
def FnExactMakeBillWrongFalsely : Prop := fnExactMakeBillRow.holds Try.pinned (OpenSpec.ofChange fnExactMakeBillWrong)

/-- 'laws.FnBills': WHATEVER THE INPUT: true; the input reads as it did. -/
def fnBillsSpec : ChangeSpec := { name := "fnBills", fn := fun _ => fun
  | [d] => { results := [.lit (.bool true)], args := [d] }
  | _ => none }
def fnBillsRow : OpenClaim := { program := "ytappbdfieccfeaa", sum := "4c21ba9ea0251e5c94e33b25b92b4fb00fb67e94d214b2c891fc3c2a006a20c7", func := "loop.example/g00853/laws.FnBills", spec := "fnBills", unfollowed := true, recurses := true, apart := false }
def FnBillsSaid : Prop := fnBillsRow.holds Try.pinned (OpenSpec.ofChange fnBillsSpec)

/-- ITS FALSE NEIGHBOUR: 'it returns false'. Refute it at one input. -/
def fnBillsWrong : ChangeSpec := { name := "fnBills", fn := fun _ => fun
  | [d] => { results := [.lit (.bool false)], args := [d] }
  | _ => none }
def FnBillsWrongFalsely : Prop := fnBillsRow.holds Try.pinned (OpenSpec.ofChange fnBillsWrong)

/- THE SECOND FORM. 'bulk': how many values and letters a reading holds, each counted each time it is reached (what is shared counts as often as it is met; a slice's spare places count too). A statement '..UptoSaid' is the law's where the arguments, and the package variables that the reading takes, are together of bulk at most 1048576: NARROWER than '..Said'. Prove '..Said' where nothing that the law and all that it calls make is longer than what came in: it says more and counts as full. Else prove '..UptoSaid'. A law counts once. -/
mutual
def uptoBulk {H : Type} : DataW H → Nat
  | .lit (.string bytes) => bytes.length + 1
  | .lit _ => 1
  | .nil => 1
  | .ptr d => uptoBulk d + 1
  | .slice elems spare => uptoBulkAll elems + uptoBulkAll spare + 1
  | .agg parts => uptoBulkAll parts + 1
  | .iface _ d => uptoBulk d + 1
  | .map entries => uptoBulkEntries entries + 1
  | .held _ => 1
def uptoBulkAll {H : Type} : List (DataW H) → Nat
  | [] => 0
  | d :: r => uptoBulk d + uptoBulkAll r
def uptoBulkEntries {H : Type} : List (Lit × DataW H) → Nat
  | [] => 0
  | x :: r => uptoBulkEntry x + uptoBulkEntries r
def uptoBulkEntry {H : Type} : Lit × DataW H → Nat
  | (.string bytes, d) => bytes.length + uptoBulk d + 1
  | (_, d) => uptoBulk d + 1
 end
def uptoSmall : (H : Type) → List (DataW H) → Bool := fun _ ds => decide (uptoBulkAll ds ≤ 1048576)
def OpenSpec.upto (s : _root_.Go.ChangeSpec) : _root_.Go.OpenSpec := { _root_.Go.OpenSpec.ofChange s with cond := some uptoSmall }

/-- 'laws.FnExactRefundBill', WHERE WHAT IT READS IS OF BULK AT MOST 1048576: true; the input reads as it did. -/
def fnExactRefundBillUptoRow : OpenClaim := { program := "ytappbdfieccfeaa", sum := "4c21ba9ea0251e5c94e33b25b92b4fb00fb67e94d214b2c891fc3c2a006a20c7", func := "loop.example/g00853/laws.FnExactRefundBill", spec := "fnExactRefundBill", unfollowed := true, recurses := true, apart := false, narrowed := true }
def FnExactRefundBillUptoSaid : Prop := fnExactRefundBillUptoRow.holds Try.pinned (OpenSpec.upto fnExactRefundBillSpec)

/-- 'laws.FnExactMakeBill', WHERE WHAT IT READS IS OF BULK AT MOST 1048576: true; the input reads as it did. -/
def fnExactMakeBillUptoRow : OpenClaim := { program := "ytappbdfieccfeaa", sum := "4c21ba9ea0251e5c94e33b25b92b4fb00fb67e94d214b2c891fc3c2a006a20c7", func := "loop.example/g00853/laws.FnExactMakeBill", spec := "fnExactMakeBill", apart := false, narrowed := true }
def FnExactMakeBillUptoSaid : Prop := fnExactMakeBillUptoRow.holds Try.pinned (OpenSpec.upto fnExactMakeBillSpec)

/-- 'laws.FnBills', WHERE WHAT IT READS IS OF BULK AT MOST 1048576: true; the input reads as it did. -/
def fnBillsUptoRow : OpenClaim := { program := "ytappbdfieccfeaa", sum := "4c21ba9ea0251e5c94e33b25b92b4fb00fb67e94d214b2c891fc3c2a006a20c7", func := "loop.example/g00853/laws.FnBills", spec := "fnBills", unfollowed := true, recurses := true, apart := false, narrowed := true }
def FnBillsUptoSaid : Prop := fnBillsUptoRow.holds Try.pinned (OpenSpec.upto fnBillsSpec)

end Rows
end Go.Proofs.Ytappbdfieccfeaa
