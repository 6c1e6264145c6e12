/- Rules, alarms and readings of alarms: what is valid. -/
import Derived.Test.YtemamoobemlkcaaDoorAsc
import Derived.Test.YtemamoobemlkcaaDoorRecAr
import Derived.Test.YtemamoobemlkcaaDoorRecAl
import Derived.Test.YtemamoobemlkcaaDoorRecRg
import Derived.Test.YtemamoobemlkcaaDoorAlarms
namespace Go.Proofs.YtemamoobemlkcaaDoor
open Go.Am
set_option linter.unusedVariables false
set_option linter.unusedSimpArgs false
set_option maxRecDepth 100000

def isAl (a : Al) : Bool := inB a.1 1 8 && (inB a.2.1 1 2 && inB a.2.2.1 0 9999)
def isRg (a : Rg) : Bool := inB a.1 0 9999 && (inB a.2.1 1 8 && inB a.2.2 0 100000)
theorem isAlarmHour_A (n : Int) (H : Heap) : AFunC Tryd.prog 53 [.int .i64 n] H (.bool (inB n 0 9999)) H := by
  refine AFunC.of_body Tryd.func53 (by kernel_rfl) rfl (by kernel_rfl) (by simp [Tryd.ntmps53]) ?_
  simp -dsimp -implicitDefEqProofs (disch := omega) [go_sem, -List.getD_eq_getElem?_getD, ite_yes]
  refine ACall.of (inside_A _ _ _ _) ?_
  simp -dsimp -implicitDefEqProofs (disch := omega) [go_sem, -List.getD_eq_getElem?_getD, ite_yes]
  exact fin_flat0 rfl rfl
theorem l21Hour_A (n : Int) (H : Heap) : AFunC Tryd.prog 49 [.int .i64 n] H (.bool (inB n 0 9999)) H := by
  refine AFunC.of_body Tryd.func49 (by kernel_rfl) rfl (by kernel_rfl) (by simp [Tryd.ntmps49]) ?_
  simp -dsimp -implicitDefEqProofs (disch := omega) [go_sem, -List.getD_eq_getElem?_getD, ite_yes]
  refine ACall.of (l1In_A _ _ _ _) ?_
  simp -dsimp -implicitDefEqProofs (disch := omega) [go_sem, -List.getD_eq_getElem?_getD, ite_yes]
  exact fin_flat0 rfl rfl
theorem isAlarm_A (r : Al) (H : Heap) : AFunC Tryd.prog 35 [.agg #[.int .i64 r.1, .int .i64 r.2.1, .int .i64 r.2.2.1, .bool r.2.2.2]] H (.bool (isAl r)) H := by
  refine AFunC.of_body Tryd.func35 (by kernel_rfl) rfl (by kernel_rfl) (by simp [Tryd.ntmps35]) ?_
  simp -dsimp -implicitDefEqProofs (disch := omega) [go_sem, -List.getD_eq_getElem?_getD, ite_yes]
  refine ACall.of (isNode_A _ _) ?_
  simp -dsimp -implicitDefEqProofs (disch := omega) [go_sem, -List.getD_eq_getElem?_getD, ite_yes]
  refine AIf.of (fun h0 => ?_) (fun h0 => ?_)
  rotate_left
  · simp -dsimp -implicitDefEqProofs (disch := omega) [go_sem, -List.getD_eq_getElem?_getD, ite_yes]
    exact fin_flat rfl (by (try simp only [isNodeB] at *); simp [isAl, h0])
  simp -dsimp -implicitDefEqProofs (disch := omega) [go_sem, -List.getD_eq_getElem?_getD, ite_yes]
  refine ACall.of (inside_A _ _ _ _) ?_
  simp -dsimp -implicitDefEqProofs (disch := omega) [go_sem, -List.getD_eq_getElem?_getD, ite_yes]
  refine AIf.of (fun h1 => ?_) (fun h1 => ?_)
  rotate_left
  · simp -dsimp -implicitDefEqProofs (disch := omega) [go_sem, -List.getD_eq_getElem?_getD, ite_yes]
    exact fin_flat rfl (by (try simp only [isNodeB] at *); simp [isAl, h0, h1])
  simp -dsimp -implicitDefEqProofs (disch := omega) [go_sem, -List.getD_eq_getElem?_getD, ite_yes]
  refine ACall.of (isAlarmHour_A _ _) ?_
  simp -dsimp -implicitDefEqProofs (disch := omega) [go_sem, -List.getD_eq_getElem?_getD, ite_yes]
  exact fin_flat rfl (by (try simp only [isNodeB] at *); simp [isAl, h0, h1])
theorem l21Alarm_A (r : Al) (H : Heap) : AFunC Tryd.prog 31 [.agg #[.int .i64 r.1, .int .i64 r.2.1, .int .i64 r.2.2.1, .bool r.2.2.2]] H (.bool (isAl r)) H := by
  refine AFunC.of_body Tryd.func31 (by kernel_rfl) rfl (by kernel_rfl) (by simp [Tryd.ntmps31]) ?_
  simp -dsimp -implicitDefEqProofs (disch := omega) [go_sem, -List.getD_eq_getElem?_getD, ite_yes]
  refine ACall.of (l1In_A _ _ _ _) ?_
  simp -dsimp -implicitDefEqProofs (disch := omega) [go_sem, -List.getD_eq_getElem?_getD, ite_yes]
  refine AIf.of (fun h0 => ?_) (fun h0 => ?_)
  rotate_left
  · simp -dsimp -implicitDefEqProofs (disch := omega) [go_sem, -List.getD_eq_getElem?_getD, ite_yes]
    exact fin_flat rfl (by (try simp only [isNodeB] at *); simp [isAl, h0])
  simp -dsimp -implicitDefEqProofs (disch := omega) [go_sem, -List.getD_eq_getElem?_getD, ite_yes]
  refine ACall.of (l1In_A _ _ _ _) ?_
  simp -dsimp -implicitDefEqProofs (disch := omega) [go_sem, -List.getD_eq_getElem?_getD, ite_yes]
  refine AIf.of (fun h1 => ?_) (fun h1 => ?_)
  rotate_left
  · simp -dsimp -implicitDefEqProofs (disch := omega) [go_sem, -List.getD_eq_getElem?_getD, ite_yes]
    exact fin_flat rfl (by (try simp only [isNodeB] at *); simp [isAl, h0, h1])
  simp -dsimp -implicitDefEqProofs (disch := omega) [go_sem, -List.getD_eq_getElem?_getD, ite_yes]
  refine ACall.of (l21Hour_A _ _) ?_
  simp -dsimp -implicitDefEqProofs (disch := omega) [go_sem, -List.getD_eq_getElem?_getD, ite_yes]
  exact fin_flat rfl (by (try simp only [isNodeB] at *); simp [isAl, h0, h1])
def goodRR (a b : Ar) : Bool := decide (a.1 < b.1)
abbrev goodRTo (l : List Ar) (k : Nat) : Prop := ascTo (0, 0, 0, 0) isRl goodRR l k
def goodR (l : List Ar) : Bool := asc (0, 0, 0, 0) isRl goodRR l
theorem goodR_no {l : List Ar} {k : Nat} (hk : k < l.length) (h : isRl (l.getD k (0, 0, 0, 0)) = false ∨ 0 < k ∧ goodRR (l.getD (k - 1) (0, 0, 0, 0)) (l.getD k (0, 0, 0, 0)) = false) : goodR l = false := asc_no hk h
theorem goodR_end {l : List Ar} (h : goodRTo l l.length) : goodR l = true := asc_yes h
def goodAR (a b : Al) : Bool := decide (a.1 < b.1)
abbrev goodATo (l : List Al) (k : Nat) : Prop := ascTo (0, 0, 0, false) isAl goodAR l k
def goodA (l : List Al) : Bool := asc (0, 0, 0, false) isAl goodAR l
theorem goodA_no {l : List Al} {k : Nat} (hk : k < l.length) (h : isAl (l.getD k (0, 0, 0, false)) = false ∨ 0 < k ∧ goodAR (l.getD (k - 1) (0, 0, 0, false)) (l.getD k (0, 0, 0, false)) = false) : goodA l = false := asc_no hk h
theorem goodA_end {l : List Al} (h : goodATo l l.length) : goodA l = true := asc_yes h
end Go.Proofs.YtemamoobemlkcaaDoor
