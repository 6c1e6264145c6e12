/- Alarms: rules, and the kind after a reading. -/
import Derived.Test.YthnnbgggfpempaaDoorSamples
namespace Go.Proofs.YthnnbgggfpempaaDoor
open Go.Am
set_option linter.unusedVariables false
set_option linter.unusedSimpArgs false
set_option maxRecDepth 100000
set_option maxHeartbeats 1000000

/-- node, low, high, band -/
abbrev Rule := Int × Int × Int × Int
abbrev ruleV (r : Rule) : Value := .agg #[.int .i64 r.1, .int .i64 r.2.1, .int .i64 r.2.2.1, .int .i64 r.2.2.2]
def ruleOk (r : Rule) : Prop := (1 ≤ r.1 ∧ r.1 ≤ 8) ∧ 0 ≤ r.2.1 ∧ r.2.1 ≤ r.2.2.1 ∧ r.2.2.1 ≤ 100000 ∧ 0 ≤ r.2.2.2 ∧ r.2.2.2 ≤ (r.2.2.1 - r.2.1) / 2
instance ruleOk_dec (r : Rule) : Decidable (ruleOk r) := by unfold ruleOk; infer_instance
def isRl (r : Rule) : Bool := decide (ruleOk r)
theorem isRule_A (r : Rule) (H : Heap) : AFunC Tryd.prog 103 [ruleV r] H (.bool (isRl r)) H := by
  refine AFunC.of_body Tryd.func103 (by kernel_rfl) rfl (by kernel_rfl) (by simp [Tryd.ntmps103]) ?_
  simp -dsimp -implicitDefEqProofs (disch := omega) [go_sem, -List.getD_eq_getElem?_getD, ite_yes]
  refine ACall.of (isNode_A _ _) ?_
  simp -dsimp -implicitDefEqProofs (disch := omega) [go_sem, -List.getD_eq_getElem?_getD, ite_yes]
  refine AIf.of (fun h1 => ?_) (fun h1 => ?_) <;> simp only [isNodeB, inB, Bool.and_eq_true, Bool.and_eq_false_iff, decide_eq_true_eq, decide_eq_false_iff_not] at h1
  · simp -dsimp -implicitDefEqProofs (disch := omega) [go_sem, -List.getD_eq_getElem?_getD, ite_yes]
    refine AIf.of (fun h2 => ?_) (fun h2 => ?_) <;> simp only [decide_eq_true_eq, decide_eq_false_iff_not] at h2
    · simp -dsimp -implicitDefEqProofs (disch := omega) [go_sem, -List.getD_eq_getElem?_getD, ite_yes]
      refine AIf.of (fun h3 => ?_) (fun h3 => ?_) <;> simp only [decide_eq_true_eq, decide_eq_false_iff_not] at h3
      · simp -dsimp -implicitDefEqProofs (disch := omega) [go_sem, -List.getD_eq_getElem?_getD, ite_yes]
        refine AIf.of (fun h4 => ?_) (fun h4 => ?_) <;> simp only [decide_eq_true_eq, decide_eq_false_iff_not] at h4
        · simp -dsimp -implicitDefEqProofs (disch := omega) [go_sem, -List.getD_eq_getElem?_getD, ite_yes]
          refine ACall.of (inside_A _ _ _ _) ?_
          simp -dsimp -implicitDefEqProofs (disch := omega) [go_sem, -List.getD_eq_getElem?_getD, ite_yes]
          exact fin_flat rfl (by congr 1; simp only [isRl, inB]; rw [← Bool.decide_and]; congr 1; simp only [ruleOk, eq_iff_iff]; omega)
        · simp -dsimp -implicitDefEqProofs (disch := omega) [go_sem, -List.getD_eq_getElem?_getD, ite_yes]
          exact fin_flat rfl (by rw [isRl, decide_eq_false (by unfold ruleOk; omega)])
      · simp -dsimp -implicitDefEqProofs (disch := omega) [go_sem, -List.getD_eq_getElem?_getD, ite_yes]
        exact fin_flat rfl (by rw [isRl, decide_eq_false (by unfold ruleOk; omega)])
    · simp -dsimp -implicitDefEqProofs (disch := omega) [go_sem, -List.getD_eq_getElem?_getD, ite_yes]
      exact fin_flat rfl (by rw [isRl, decide_eq_false (by unfold ruleOk; omega)])
  · simp -dsimp -implicitDefEqProofs (disch := omega) [go_sem, -List.getD_eq_getElem?_getD, ite_yes]
    exact fin_flat rfl (by rw [isRl, decide_eq_false (by unfold ruleOk; omega)])
theorem l21Value_A (n : Int) (H : Heap) : AFunC Tryd.prog 137 [.int .i64 n] H (.bool (inB n 0 100000)) H := by
  refine AFunC.of_body Tryd.func137 (by kernel_rfl) rfl (by kernel_rfl) (by simp [Tryd.ntmps137]) ?_
  simp -dsimp -implicitDefEqProofs (disch := omega) [go_sem, -List.getD_eq_getElem?_getD, ite_yes]
  refine ACall.of (l1In_A _ _ _ _) ?_
  simp -dsimp -implicitDefEqProofs (disch := omega) [go_sem, -List.getD_eq_getElem?_getD, ite_yes]
  exact fin_flat0 rfl rfl
theorem l21Rule_A (r : Rule) (H : Heap) : AFunC Tryd.prog 135 [ruleV r] H (.bool (isRl r)) H := by
  refine AFunC.of_body Tryd.func135 (by kernel_rfl) rfl (by kernel_rfl) (by simp [Tryd.ntmps135]) ?_
  simp -dsimp -implicitDefEqProofs (disch := omega) [go_sem, -List.getD_eq_getElem?_getD, ite_yes]
  refine ACall.of (l1In_A _ _ _ _) ?_
  simp -dsimp -implicitDefEqProofs (disch := omega) [go_sem, -List.getD_eq_getElem?_getD, ite_yes]
  refine AIf.of (fun h1 => ?_) (fun h1 => ?_) <;> simp only [isNodeB, inB, Bool.and_eq_true, Bool.and_eq_false_iff, decide_eq_true_eq, decide_eq_false_iff_not] at h1
  · simp -dsimp -implicitDefEqProofs (disch := omega) [go_sem, -List.getD_eq_getElem?_getD, ite_yes]
    refine ACall.of (l21Value_A _ _) ?_
    simp -dsimp -implicitDefEqProofs (disch := omega) [go_sem, -List.getD_eq_getElem?_getD, ite_yes]
    refine AIf.of (fun h2 => ?_) (fun h2 => ?_) <;> simp only [isNodeB, inB, Bool.and_eq_true, Bool.and_eq_false_iff, decide_eq_true_eq, decide_eq_false_iff_not] at h2
    · simp -dsimp -implicitDefEqProofs (disch := omega) [go_sem, -List.getD_eq_getElem?_getD, ite_yes]
      refine ACall.of (l21Value_A _ _) ?_
      simp -dsimp -implicitDefEqProofs (disch := omega) [go_sem, -List.getD_eq_getElem?_getD, ite_yes]
      refine AIf.of (fun h3 => ?_) (fun h3 => ?_) <;> simp only [isNodeB, inB, Bool.and_eq_true, Bool.and_eq_false_iff, decide_eq_true_eq, decide_eq_false_iff_not] at h3
      · simp -dsimp -implicitDefEqProofs (disch := omega) [go_sem, -List.getD_eq_getElem?_getD, ite_yes]
        refine AIf.of (fun h4 => ?_) (fun h4 => ?_) <;> simp only [isNodeB, inB, Bool.and_eq_true, Bool.and_eq_false_iff, decide_eq_true_eq, decide_eq_false_iff_not] at h4
        · simp -dsimp -implicitDefEqProofs (disch := omega) [go_sem, -List.getD_eq_getElem?_getD, ite_yes]
          refine ACall.of (l1In_A _ _ _ _) ?_
          simp -dsimp -implicitDefEqProofs (disch := omega) [go_sem, -List.getD_eq_getElem?_getD, ite_yes]
          exact fin_flat rfl (by congr 1; simp only [isRl, inB]; rw [← Bool.decide_and]; congr 1; simp only [ruleOk, eq_iff_iff]; omega)
        · simp -dsimp -implicitDefEqProofs (disch := omega) [go_sem, -List.getD_eq_getElem?_getD, ite_yes]
          exact fin_flat rfl (by rw [isRl, decide_eq_false (by unfold ruleOk; omega)])
      · simp -dsimp -implicitDefEqProofs (disch := omega) [go_sem, -List.getD_eq_getElem?_getD, ite_yes]
        exact fin_flat rfl (by rw [isRl, decide_eq_false (by unfold ruleOk; omega)])
    · simp -dsimp -implicitDefEqProofs (disch := omega) [go_sem, -List.getD_eq_getElem?_getD, ite_yes]
      exact fin_flat rfl (by rw [isRl, decide_eq_false (by unfold ruleOk; omega)])
  · simp -dsimp -implicitDefEqProofs (disch := omega) [go_sem, -List.getD_eq_getElem?_getD, ite_yes]
    exact fin_flat rfl (by rw [isRl, decide_eq_false (by unfold ruleOk; omega)])
/-- the kind after a reading -/
def kindN (r : Rule) (kind value : Int) : Int := if value < r.2.1 then 1 else if r.2.2.1 < value then 2 else if r.2.1 + r.2.2.2 ≤ value ∧ value ≤ r.2.2.1 - r.2.2.2 then 0 else kind
theorem kindAfter_A (r : Rule) (kind value : Int) (hr : ruleOk r) (H : Heap) : AFunC Tryd.prog 131 [ruleV r, .int .i64 kind, .int .i64 value] H (.int .i64 (kindN r kind value)) H := by
  refine AFunC.of_body Tryd.func131 (by kernel_rfl) rfl (by kernel_rfl) (by simp [Tryd.ntmps131]) ?_
  unfold ruleOk at hr
  simp -dsimp -implicitDefEqProofs (disch := omega) [go_sem, -List.getD_eq_getElem?_getD, ite_yes]
  refine AIf.of (fun h1 => ?_) (fun h1 => ?_) <;> simp only [isNodeB, inB, Bool.and_eq_true, Bool.and_eq_false_iff, decide_eq_true_eq, decide_eq_false_iff_not] at h1
  · simp -dsimp -implicitDefEqProofs (disch := omega) [go_sem, -List.getD_eq_getElem?_getD, ite_yes]
    exact fin_flat rfl (by unfold kindN; rw [if_pos h1])
  · simp -dsimp -implicitDefEqProofs (disch := omega) [go_sem, -List.getD_eq_getElem?_getD, ite_yes]
    refine AIf.of (fun h2 => ?_) (fun h2 => ?_) <;> simp only [isNodeB, inB, Bool.and_eq_true, Bool.and_eq_false_iff, decide_eq_true_eq, decide_eq_false_iff_not] at h2
    · simp -dsimp -implicitDefEqProofs (disch := omega) [go_sem, -List.getD_eq_getElem?_getD, ite_yes]
      exact fin_flat rfl (by unfold kindN; rw [if_neg h1, if_pos h2])
    · simp -dsimp -implicitDefEqProofs (disch := omega) [go_sem, -List.getD_eq_getElem?_getD, ite_yes]
      refine ACall.of (inside_A _ _ _ _) ?_
      simp -dsimp -implicitDefEqProofs (disch := omega) [go_sem, -List.getD_eq_getElem?_getD, ite_yes]
      refine AIf.of (fun h3 => ?_) (fun h3 => ?_) <;> simp only [isNodeB, inB, Bool.and_eq_true, Bool.and_eq_false_iff, decide_eq_true_eq, decide_eq_false_iff_not] at h3
      · simp -dsimp -implicitDefEqProofs (disch := omega) [go_sem, -List.getD_eq_getElem?_getD, ite_yes]
        exact fin_flat rfl (by unfold kindN; rw [if_neg h1, if_neg h2, if_pos (by omega)])
      · simp -dsimp -implicitDefEqProofs (disch := omega) [go_sem, -List.getD_eq_getElem?_getD, ite_yes]
        exact fin_flat rfl (by unfold kindN; rw [if_neg h1, if_neg h2, if_neg (by omega)])
theorem l21Kind_A (r : Rule) (kind value : Int) (hr : ruleOk r) (H : Heap) : AFunC Tryd.prog 138 [ruleV r, .int .i64 kind, .int .i64 value] H (.int .i64 (kindN r kind value)) H := by
  refine AFunC.of_body Tryd.func138 (by kernel_rfl) rfl (by kernel_rfl) (by simp [Tryd.ntmps138]) ?_
  unfold ruleOk at hr
  simp -dsimp -implicitDefEqProofs (disch := omega) [go_sem, -List.getD_eq_getElem?_getD, ite_yes]
  refine AIf.of (fun h1 => ?_) (fun h1 => ?_) <;> simp only [isNodeB, inB, Bool.and_eq_true, Bool.and_eq_false_iff, decide_eq_true_eq, decide_eq_false_iff_not] at h1
  · simp -dsimp -implicitDefEqProofs (disch := omega) [go_sem, -List.getD_eq_getElem?_getD, ite_yes]
    exact fin_flat rfl (by unfold kindN; rw [if_pos h1])
  · simp -dsimp -implicitDefEqProofs (disch := omega) [go_sem, -List.getD_eq_getElem?_getD, ite_yes]
    refine AIf.of (fun h2 => ?_) (fun h2 => ?_) <;> simp only [isNodeB, inB, Bool.and_eq_true, Bool.and_eq_false_iff, decide_eq_true_eq, decide_eq_false_iff_not] at h2
    · simp -dsimp -implicitDefEqProofs (disch := omega) [go_sem, -List.getD_eq_getElem?_getD, ite_yes]
      exact fin_flat rfl (by unfold kindN; rw [if_neg h1, if_pos h2])
    · simp -dsimp -implicitDefEqProofs (disch := omega) [go_sem, -List.getD_eq_getElem?_getD, ite_yes]
      refine ACall.of (l1In_A _ _ _ _) ?_
      simp -dsimp -implicitDefEqProofs (disch := omega) [go_sem, -List.getD_eq_getElem?_getD, ite_yes]
      refine AIf.of (fun h3 => ?_) (fun h3 => ?_) <;> simp only [isNodeB, inB, Bool.and_eq_true, Bool.and_eq_false_iff, decide_eq_true_eq, decide_eq_false_iff_not] at h3
      · simp -dsimp -implicitDefEqProofs (disch := omega) [go_sem, -List.getD_eq_getElem?_getD, ite_yes]
        exact fin_flat rfl (by unfold kindN; rw [if_neg h1, if_neg h2, if_pos (by omega)])
      · simp -dsimp -implicitDefEqProofs (disch := omega) [go_sem, -List.getD_eq_getElem?_getD, ite_yes]
        exact fin_flat rfl (by unfold kindN; rw [if_neg h1, if_neg h2, if_neg (by omega)])
def kaOk (r : Rule) (kind value : Int) : Bool := isRl r && (inB kind 0 2 && inB value 0 100000)
def kaN (r : Rule) (kind value : Int) : Int := if kaOk r kind value = true then kindN r kind value else 0
end Go.Proofs.YthnnbgggfpempaaDoor

