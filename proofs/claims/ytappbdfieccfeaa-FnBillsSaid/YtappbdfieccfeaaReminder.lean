/- ReminderLevel: both sides, and the law. -/
import Derived.Test.YtappbdfieccfeaaBills
import Derived.Test.YtappbdfieccfeaaFrac
namespace Go.Proofs.Ytappbdfieccfeaa
open Go.Am
set_option linter.unusedVariables false
set_option linter.unusedSimpArgs false
set_option maxRecDepth 100000

def remOk (l : List Bl) (day : Int) : Bool := goodB l && inB day 0 3650
def remQ (b : Bl) (day : Int) : Int := max 0 (day - b.2.1 - 1) / 30
def levTo (l : List Bl) (day : Int) : Nat → Int
  | 0 => 0
  | k + 1 => if (l.getD k (0, 0, 0, 0)).2.2.2 < (l.getD k (0, 0, 0, 0)).2.2.1 then max (levTo l day k) (min 3 (remQ (l.getD k (0, 0, 0, 0)) day)) else levTo l day k
theorem levTo_bound (l : List Bl) (day : Int) : ∀ k, 0 ≤ levTo l day k ∧ levTo l day k ≤ 3
  | 0 => by simp [levTo]
  | k + 1 => by
    have := levTo_bound l day k
    simp only [levTo]
    split <;> omega
def remN (l : List Bl) (day : Int) : Int := if remOk l day = true then levTo l day l.length else 0
/-- the level in the midst of the days of a bill -/
def inLev (L : Int) (b : Bl) (day : Int) (d : Nat) : Int := if b.2.2.2 < b.2.2.1 then max L (min ((d : Int) - 1) (remQ b day)) else L
theorem inLev_one {L : Int} (h : 0 ≤ L) (b : Bl) (day : Int) : inLev L b day 1 = L := by
  unfold inLev remQ
  split <;> omega
theorem l20Open_A (r : Bl) (H : Heap) : AFunC Try.prog 64 [.agg #[.int .i64 r.1, .int .i64 r.2.1, .int .i64 r.2.2.1, .int .i64 r.2.2.2]] H (.bool (decide (r.2.2.2 < r.2.2.1))) H := by
  refine AFunC.of_body Try.func64 (by kernel_rfl) rfl (by kernel_rfl) (by simp [Try.ntmps64]) ?_
  simp -dsimp -implicitDefEqProofs (disch := omega) [go_sem, -List.getD_eq_getElem?_getD, ite_yes]
  exact fin_flat rfl rfl
end Go.Proofs.Ytappbdfieccfeaa
