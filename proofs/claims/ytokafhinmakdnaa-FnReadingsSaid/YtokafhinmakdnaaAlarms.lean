/- Alarms: rules, and the kind after a reading. -/
import Derived.Test.YtokafhinmakdnaaSamples
namespace Go.Proofs.Ytokafhinmakdnaa
open Go.Am
set_option linter.unusedVariables false
set_option linter.unusedSimpArgs false
set_option maxRecDepth 100000
set_option maxHeartbeats 1000000

/-- node, low, high, band -/
abbrev Rule := Int × Int × Int × Int
abbrev ruleV (r : Rule) : Value := .agg #[.int .i64 r.1, .int .i64 r.2.1, .int .i64 r.2.2.1, .int .i64 r.2.2.2]
def ruleOk (r : Rule) : Prop := (1 ≤ r.1 ∧ r.1 ≤ 8) ∧ 0 ≤ r.2.1 ∧ r.2.1 ≤ r.2.2.1 ∧ r.2.2.1 ≤ 100000 ∧ 0 ≤ r.2.2.2 ∧ r.2.2.2 ≤ (r.2.2.1 - r.2.1) / 2
instance ruleOk_dec (r : Rule) : Decidable (ruleOk r) := by unfold ruleOk; infer_instance
def isRl (r : Rule) : Bool := decide (ruleOk r)
theorem isRule_A (r : Rule) (H : Heap) : AFunC Try.prog 58 [ruleV r] H (.bool (isRl r)) H := by
  refine AFunC.of_body Try.func58 (by kernel_rfl) rfl (by kernel_rfl) (by simp [Try.ntmps58]) ?_
  simp -dsimp -implicitDefEqProofs (disch := omega) [go_sem, -List.getD_eq_getElem?_getD, ite_yes]
  refine ACall.of (isNode_A _ _) ?_
  simp -dsimp -implicitDefEqProofs (disch := omega) [go_sem, -List.getD_eq_getElem?_getD, ite_yes]
  refine AIf.of (fun h1 => ?_) (fun h1 => ?_) <;> simp only [isNodeB, inB, Bool.and_eq_true, Bool.and_eq_false_iff, decide_eq_true_eq, decide_eq_false_iff_not] at h1
  · simp -dsimp -implicitDefEqProofs (disch := omega) [go_sem, -List.getD_eq_getElem?_getD, ite_yes]
    refine AIf.of (fun h2 => ?_) (fun h2 => ?_) <;> simp only [decide_eq_true_eq, decide_eq_false_iff_not] at h2
    · simp -dsimp -implicitDefEqProofs (disch := omega) [go_sem, -List.getD_eq_getElem?_getD, ite_yes]
      refine AIf.of (fun h3 => ?_) (fun h3 => ?_) <;> simp only [decide_eq_true_eq, decide_eq_false_iff_not] at h3
      · simp -dsimp -implicitDefEqProofs (disch := omega) [go_sem, -List.getD_eq_getElem?_getD, ite_yes]
        refine AIf.of (fun h4 => ?_) (fun h4 => ?_) <;> simp only [decide_eq_true_eq, decide_eq_false_iff_not] at h4
        · simp -dsimp -implicitDefEqProofs (disch := omega) [go_sem, -List.getD_eq_getElem?_getD, ite_yes]
          refine ACall.of (inside_A _ _ _ _) ?_
          simp -dsimp -implicitDefEqProofs (disch := omega) [go_sem, -List.getD_eq_getElem?_getD, ite_yes]
          exact fin_flat rfl (by congr 1; simp only [isRl, inB]; rw [← Bool.decide_and]; congr 1; simp only [ruleOk, eq_iff_iff]; omega)
        · simp -dsimp -implicitDefEqProofs (disch := omega) [go_sem, -List.getD_eq_getElem?_getD, ite_yes]
          exact fin_flat rfl (by rw [isRl, decide_eq_false (by unfold ruleOk; omega)])
      · simp -dsimp -implicitDefEqProofs (disch := omega) [go_sem, -List.getD_eq_getElem?_getD, ite_yes]
        exact fin_flat rfl (by rw [isRl, decide_eq_false (by unfold ruleOk; omega)])
    · simp -dsimp -implicitDefEqProofs (disch := omega) [go_sem, -List.getD_eq_getElem?_getD, ite_yes]
      exact fin_flat rfl (by rw [isRl, decide_eq_false (by unfold ruleOk; omega)])
  · simp -dsimp -implicitDefEqProofs (disch := omega) [go_sem, -List.getD_eq_getElem?_getD, ite_yes]
    exact fin_flat rfl (by rw [isRl, decide_eq_false (by unfold ruleOk; omega)])
theorem l21Value_A (n : Int) (H : Heap) : AFunC Try.prog 68 [.int .i64 n] H (.bool (inB n 0 100000)) H := by
  refine AFunC.of_body Try.func68 (by kernel_rfl) rfl (by kernel_rfl) (by simp [Try.ntmps68]) ?_
  simp -dsimp -implicitDefEqProofs (disch := omega) [go_sem, -List.getD_eq_getElem?_getD, ite_yes]
  refine ACall.of (l1In_A _ _ _ _) ?_
  simp -dsimp -implicitDefEqProofs (disch := omega) [go_sem, -List.getD_eq_getElem?_getD, ite_yes]
  exact fin_flat0 rfl rfl
theorem l21Rule_A (r : Rule) (H : Heap) : AFunC Try.prog 61 [ruleV r] H (.bool (isRl r)) H := by
  refine AFunC.of_body Try.func61 (by kernel_rfl) rfl (by kernel_rfl) (by simp [Try.ntmps61]) ?_
  simp -dsimp -implicitDefEqProofs (disch := omega) [go_sem, -List.getD_eq_getElem?_getD, ite_yes]
  refine ACall.of (l1In_A _ _ _ _) ?_
  simp -dsimp -implicitDefEqProofs (disch := omega) [go_sem, -List.getD_eq_getElem?_getD, ite_yes]
  refine AIf.of (fun h1 => ?_) (fun h1 => ?_) <;> simp only [isNodeB, inB, Bool.and_eq_true, Bool.and_eq_false_iff, decide_eq_true_eq, decide_eq_false_iff_not] at h1
  · simp -dsimp -implicitDefEqProofs (disch := omega) [go_sem, -List.getD_eq_getElem?_getD, ite_yes]
    refine ACall.of (l21Value_A _ _) ?_
    simp -dsimp -implicitDefEqProofs (disch := omega) [go_sem, -List.getD_eq_getElem?_getD, ite_yes]
    refine AIf.of (fun h2 => ?_) (fun h2 => ?_) <;> simp only [isNodeB, inB, Bool.and_eq_true, Bool.and_eq_false_iff, decide_eq_true_eq, decide_eq_false_iff_not] at h2
    · simp -dsimp -implicitDefEqProofs (disch := omega) [go_sem, -List.getD_eq_getElem?_getD, ite_yes]
      refine ACall.of (l21Value_A _ _) ?_
      simp -dsimp -implicitDefEqProofs (disch := omega) [go_sem, -List.getD_eq_getElem?_getD, ite_yes]
      refine AIf.of (fun h3 => ?_) (fun h3 => ?_) <;> simp only [isNodeB, inB, Bool.and_eq_true, Bool.and_eq_false_iff, decide_eq_true_eq, decide_eq_false_iff_not] at h3
      · simp -dsimp -implicitDefEqProofs (disch := omega) [go_sem, -List.getD_eq_getElem?_getD, ite_yes]
        refine AIf.of (fun h4 => ?_) (fun h4 => ?_) <;> simp only [isNodeB, inB, Bool.and_eq_true, Bool.and_eq_false_iff, decide_eq_true_eq, decide_eq_false_iff_not] at h4
        · simp -dsimp -implicitDefEqProofs (disch := omega) [go_sem, -List.getD_eq_getElem?_getD, ite_yes]
          refine ACall.of (l1In_A _ _ _ _) ?_
          simp -dsimp -implicitDefEqProofs (disch := omega) [go_sem, -List.getD_eq_getElem?_getD, ite_yes]
          exact fin_flat rfl (by congr 1; simp only [isRl, inB]; rw [← Bool.decide_and]; congr 1; simp only [ruleOk, eq_iff_iff]; omega)
        · simp -dsimp -implicitDefEqProofs (disch := omega) [go_sem, -List.getD_eq_getElem?_getD, ite_yes]
          exact fin_flat rfl (by rw [isRl, decide_eq_false (by unfold ruleOk; omega)])
      · simp -dsimp -implicitDefEqProofs (disch := omega) [go_sem, -List.getD_eq_getElem?_getD, ite_yes]
        exact fin_flat rfl (by rw [isRl, decide_eq_false (by unfold ruleOk; omega)])
    · simp -dsimp -implicitDefEqProofs (disch := omega) [go_sem, -List.getD_eq_getElem?_getD, ite_yes]
      exact fin_flat rfl (by rw [isRl, decide_eq_false (by unfold ruleOk; omega)])
  · simp -dsimp -implicitDefEqProofs (disch := omega) [go_sem, -List.getD_eq_getElem?_getD, ite_yes]
    exact fin_flat rfl (by rw [isRl, decide_eq_false (by unfold ruleOk; omega)])
/-- the kind after a reading -/
def kindN (r : Rule) (kind value : Int) : Int := if value < r.2.1 then 1 else if r.2.2.1 < value then 2 else if r.2.1 + r.2.2.2 ≤ value ∧ value ≤ r.2.2.1 - r.2.2.2 then 0 else kind
theorem kindAfter_A (r : Rule) (kind value : Int) (hr : ruleOk r) (H : Heap) : AFunC Try.prog 60 [ruleV r, .int .i64 kind, .int .i64 value] H (.int .i64 (kindN r kind value)) H := by
  refine AFunC.of_body Try.func60 (by kernel_rfl) rfl (by kernel_rfl) (by simp [Try.ntmps60]) ?_
  unfold ruleOk at hr
  simp -dsimp -implicitDefEqProofs (disch := omega) [go_sem, -List.getD_eq_getElem?_getD, ite_yes]
  refine AIf.of (fun h1 => ?_) (fun h1 => ?_) <;> simp only [isNodeB, inB, Bool.and_eq_true, Bool.and_eq_false_iff, decide_eq_true_eq, decide_eq_false_iff_not] at h1
  · simp -dsimp -implicitDefEqProofs (disch := omega) [go_sem, -List.getD_eq_getElem?_getD, ite_yes]
    exact fin_flat rfl (by unfold kindN; rw [if_pos h1])
  · simp -dsimp -implicitDefEqProofs (disch := omega) [go_sem, -List.getD_eq_getElem?_getD, ite_yes]
    refine AIf.of (fun h2 => ?_) (fun h2 => ?_) <;> simp only [isNodeB, inB, Bool.and_eq_true, Bool.and_eq_false_iff, decide_eq_true_eq, decide_eq_false_iff_not] at h2
    · simp -dsimp -implicitDefEqProofs (disch := omega) [go_sem, -List.getD_eq_getElem?_getD, ite_yes]
      exact fin_flat rfl (by unfold kindN; rw [if_neg h1, if_pos h2])
    · simp -dsimp -implicitDefEqProofs (disch := omega) [go_sem, -List.getD_eq_getElem?_getD, ite_yes]
      refine ACall.of (inside_A _ _ _ _) ?_
      simp -dsimp -implicitDefEqProofs (disch := omega) [go_sem, -List.getD_eq_getElem?_getD, ite_yes]
      refine AIf.of (fun h3 => ?_) (fun h3 => ?_) <;> simp only [isNodeB, inB, Bool.and_eq_true, Bool.and_eq_false_iff, decide_eq_true_eq, decide_eq_false_iff_not] at h3
      · simp -dsimp -implicitDefEqProofs (disch := omega) [go_sem, -List.getD_eq_getElem?_getD, ite_yes]
        exact fin_flat rfl (by unfold kindN; rw [if_neg h1, if_neg h2, if_pos (by omega)])
      · simp -dsimp -implicitDefEqProofs (disch := omega) [go_sem, -List.getD_eq_getElem?_getD, ite_yes]
        exact fin_flat rfl (by unfold kindN; rw [if_neg h1, if_neg h2, if_neg (by omega)])
theorem l21Kind_A (r : Rule) (kind value : Int) (hr : ruleOk r) (H : Heap) : AFunC Try.prog 63 [ruleV r, .int .i64 kind, .int .i64 value] H (.int .i64 (kindN r kind value)) H := by
  refine AFunC.of_body Try.func63 (by kernel_rfl) rfl (by kernel_rfl) (by simp [Try.ntmps63]) ?_
  unfold ruleOk at hr
  simp -dsimp -implicitDefEqProofs (disch := omega) [go_sem, -List.getD_eq_getElem?_getD, ite_yes]
  refine AIf.of (fun h1 => ?_) (fun h1 => ?_) <;> simp only [isNodeB, inB, Bool.and_eq_true, Bool.and_eq_false_iff, decide_eq_true_eq, decide_eq_false_iff_not] at h1
  · simp -dsimp -implicitDefEqProofs (disch := omega) [go_sem, -List.getD_eq_getElem?_getD, ite_yes]
    exact fin_flat rfl (by unfold kindN; rw [if_pos h1])
  · simp -dsimp -implicitDefEqProofs (disch := omega) [go_sem, -List.getD_eq_getElem?_getD, ite_yes]
    refine AIf.of (fun h2 => ?_) (fun h2 => ?_) <;> simp only [isNodeB, inB, Bool.and_eq_true, Bool.and_eq_false_iff, decide_eq_true_eq, decide_eq_false_iff_not] at h2
    · simp -dsimp -implicitDefEqProofs (disch := omega) [go_sem, -List.getD_eq_getElem?_getD, ite_yes]
      exact fin_flat rfl (by unfold kindN; rw [if_neg h1, if_pos h2])
    · simp -dsimp -implicitDefEqProofs (disch := omega) [go_sem, -List.getD_eq_getElem?_getD, ite_yes]
      refine ACall.of (l1In_A _ _ _ _) ?_
      simp -dsimp -implicitDefEqProofs (disch := omega) [go_sem, -List.getD_eq_getElem?_getD, ite_yes]
      refine AIf.of (fun h3 => ?_) (fun h3 => ?_) <;> simp only [isNodeB, inB, Bool.and_eq_true, Bool.and_eq_false_iff, decide_eq_true_eq, decide_eq_false_iff_not] at h3
      · simp -dsimp -implicitDefEqProofs (disch := omega) [go_sem, -List.getD_eq_getElem?_getD, ite_yes]
        exact fin_flat rfl (by unfold kindN; rw [if_neg h1, if_neg h2, if_pos (by omega)])
      · simp -dsimp -implicitDefEqProofs (disch := omega) [go_sem, -List.getD_eq_getElem?_getD, ite_yes]
        exact fin_flat rfl (by unfold kindN; rw [if_neg h1, if_neg h2, if_neg (by omega)])
def kaOk (r : Rule) (kind value : Int) : Bool := isRl r && (inB kind 0 2 && inB value 0 100000)
def kaN (r : Rule) (kind value : Int) : Int := if kaOk r kind value = true then kindN r kind value else 0
theorem iKindAfter_A (r : Rule) (kind value : Int) (H : Heap) : AFunC Try.prog 31 [ruleV r, .int .i64 kind, .int .i64 value] H (.tuple #[.int .i64 (kaN r kind value), .bool (kaOk r kind value)]) H := by
  refine AFunC.of_body Try.func31 (by kernel_rfl) rfl (by kernel_rfl) (by simp [Try.ntmps31]) ?_
  simp -dsimp -implicitDefEqProofs (disch := omega) [go_sem, -List.getD_eq_getElem?_getD, ite_yes]
  refine ACall.of (isRule_A r _) ?_
  simp -dsimp -implicitDefEqProofs (disch := omega) [go_sem, -List.getD_eq_getElem?_getD, ite_yes]
  refine AIf.of (fun h1 => ?_) (fun h1 => ?_) <;> simp only [Bool.not_eq_true', Bool.not_eq_false'] at h1
  · simp -dsimp -implicitDefEqProofs (disch := omega) [go_sem, -List.getD_eq_getElem?_getD, ite_yes]
    exact fin_flat rfl (by simp [kaN, kaOk, h1])
  · simp -dsimp -implicitDefEqProofs (disch := omega) [go_sem, -List.getD_eq_getElem?_getD, ite_yes]
    refine ACall.of (inside_A _ _ _ _) ?_
    simp -dsimp -implicitDefEqProofs (disch := omega) [go_sem, -List.getD_eq_getElem?_getD, ite_yes]
    refine AIf.of (fun h2 => ?_) (fun h2 => ?_) <;> simp only [Bool.not_eq_true', Bool.not_eq_false'] at h2
    · simp -dsimp -implicitDefEqProofs (disch := omega) [go_sem, -List.getD_eq_getElem?_getD, ite_yes]
      exact fin_flat rfl (by simp [kaN, kaOk, h2])
    · simp -dsimp -implicitDefEqProofs (disch := omega) [go_sem, -List.getD_eq_getElem?_getD, ite_yes]
      refine ACall.of (inside_A _ _ _ _) ?_
      simp -dsimp -implicitDefEqProofs (disch := omega) [go_sem, -List.getD_eq_getElem?_getD, ite_yes]
      refine AIf.of (fun h3 => ?_) (fun h3 => ?_) <;> simp only [Bool.not_eq_true', Bool.not_eq_false'] at h3
      · simp -dsimp -implicitDefEqProofs (disch := omega) [go_sem, -List.getD_eq_getElem?_getD, ite_yes]
        exact fin_flat rfl (by simp [kaN, kaOk, h3])
      · simp -dsimp -implicitDefEqProofs (disch := omega) [go_sem, -List.getD_eq_getElem?_getD, ite_yes]
        refine ACall.of (kindAfter_A r _ _ (of_decide_eq_true h1) _) ?_
        simp -dsimp -implicitDefEqProofs (disch := omega) [go_sem, -List.getD_eq_getElem?_getD, ite_yes]
        exact fin_flat rfl (by simp [kaN, kaOk, h1, h2, h3])
theorem sKindAfter_A (r : Rule) (kind value : Int) (H : Heap) : AFunC Try.prog 32 [ruleV r, .int .i64 kind, .int .i64 value] H (.tuple #[.int .i64 (kaN r kind value), .bool (kaOk r kind value)]) H := by
  refine AFunC.of_body Try.func32 (by kernel_rfl) rfl (by kernel_rfl) (by simp [Try.ntmps32]) ?_
  simp -dsimp -implicitDefEqProofs (disch := omega) [go_sem, -List.getD_eq_getElem?_getD, ite_yes]
  refine ACall.of (l21Rule_A r _) ?_
  simp -dsimp -implicitDefEqProofs (disch := omega) [go_sem, -List.getD_eq_getElem?_getD, ite_yes]
  refine AIf.of (fun h1 => ?_) (fun h1 => ?_) <;> simp only [Bool.not_eq_true', Bool.not_eq_false'] at h1
  · simp -dsimp -implicitDefEqProofs (disch := omega) [go_sem, -List.getD_eq_getElem?_getD, ite_yes]
    exact fin_flat rfl (by simp [kaN, kaOk, h1])
  · simp -dsimp -implicitDefEqProofs (disch := omega) [go_sem, -List.getD_eq_getElem?_getD, ite_yes]
    refine ACall.of (l1In_A _ _ _ _) ?_
    simp -dsimp -implicitDefEqProofs (disch := omega) [go_sem, -List.getD_eq_getElem?_getD, ite_yes]
    refine AIf.of (fun h2 => ?_) (fun h2 => ?_) <;> simp only [Bool.not_eq_true', Bool.not_eq_false'] at h2
    · simp -dsimp -implicitDefEqProofs (disch := omega) [go_sem, -List.getD_eq_getElem?_getD, ite_yes]
      exact fin_flat rfl (by simp [kaN, kaOk, h2])
    · simp -dsimp -implicitDefEqProofs (disch := omega) [go_sem, -List.getD_eq_getElem?_getD, ite_yes]
      refine ACall.of (l21Value_A _ _) ?_
      simp -dsimp -implicitDefEqProofs (disch := omega) [go_sem, -List.getD_eq_getElem?_getD, ite_yes]
      refine AIf.of (fun h3 => ?_) (fun h3 => ?_) <;> simp only [Bool.not_eq_true', Bool.not_eq_false'] at h3
      · simp -dsimp -implicitDefEqProofs (disch := omega) [go_sem, -List.getD_eq_getElem?_getD, ite_yes]
        exact fin_flat rfl (by simp [kaN, kaOk, h3])
      · simp -dsimp -implicitDefEqProofs (disch := omega) [go_sem, -List.getD_eq_getElem?_getD, ite_yes]
        refine ACall.of (l21Kind_A r _ _ (of_decide_eq_true h1) _) ?_
        simp -dsimp -implicitDefEqProofs (disch := omega) [go_sem, -List.getD_eq_getElem?_getD, ite_yes]
        exact fin_flat rfl (by simp [kaN, kaOk, h1, h2, h3])
theorem toAlarmRule_A (r : Rule) (H : Heap) : AFunC Try.prog 41 [ruleV r] H (ruleV r) H := by
  refine AFunC.of_body Try.func41 (by kernel_rfl) rfl (by kernel_rfl) (by simp [Try.ntmps41]) ?_
  simp -dsimp -implicitDefEqProofs (disch := omega) [go_sem, -List.getD_eq_getElem?_getD, ite_yes]
  exact fin_flat rfl rfl
end Go.Proofs.Ytokafhinmakdnaa

