/- Bills: what the functions on bills compute. -/
import Derived.Test.YtemamoobemlkcaaDoorFacts
import Derived.Test.YtemamoobemlkcaaDoorAm11
import Derived.Test.YtemamoobemlkcaaDoorRecBl
import Derived.Test.YtemamoobemlkcaaDoorDays
namespace Go.Proofs.YtemamoobemlkcaaDoor
open Go.Am
set_option linter.unusedVariables false
set_option linter.unusedSimpArgs false
set_option maxRecDepth 100000

def isBl (b : Bl) : Bool := inB b.1 1 999 && inB b.2.1 0 3650 && inB b.2.2.1 1 1000000000 && inB b.2.2.2 0 b.2.2.1
theorem isBill_A (r : Bl) (H : Heap) : AFunC Tryd.prog 29 [.agg #[.int .i64 r.1, .int .i64 r.2.1, .int .i64 r.2.2.1, .int .i64 r.2.2.2]] H (.bool (isBl r)) H := by
  refine AFunC.of_body Tryd.func29 (by kernel_rfl) rfl (by kernel_rfl) (by simp [Tryd.ntmps29]) ?_
  simp -dsimp -implicitDefEqProofs (disch := omega) [go_sem, -List.getD_eq_getElem?_getD, ite_yes]
  refine ACall.of (inside_A _ _ _ _) ?_
  simp -dsimp -implicitDefEqProofs (disch := omega) [go_sem, -List.getD_eq_getElem?_getD, ite_yes]
  refine AIf.of (fun h1 => ?_) (fun h1 => ?_)
  · simp -dsimp -implicitDefEqProofs (disch := omega) [go_sem, -List.getD_eq_getElem?_getD, ite_yes]
    refine ACall.of (isDay_A _ _) ?_
    simp -dsimp -implicitDefEqProofs (disch := omega) [go_sem, -List.getD_eq_getElem?_getD, ite_yes]
    refine AIf.of (fun h2 => ?_) (fun h2 => ?_)
    · simp -dsimp -implicitDefEqProofs (disch := omega) [go_sem, -List.getD_eq_getElem?_getD, ite_yes]
      refine ACall.of (inside_A _ _ _ _) ?_
      simp -dsimp -implicitDefEqProofs (disch := omega) [go_sem, -List.getD_eq_getElem?_getD, ite_yes]
      refine AIf.of (fun h3 => ?_) (fun h3 => ?_)
      · simp -dsimp -implicitDefEqProofs (disch := omega) [go_sem, -List.getD_eq_getElem?_getD, ite_yes]
        refine ACall.of (inside_A _ _ _ _) ?_
        simp -dsimp -implicitDefEqProofs (disch := omega) [go_sem, -List.getD_eq_getElem?_getD, ite_yes]
        exact fin_flat rfl (by simp [isBl, h1, h2, h3])
      · simp -dsimp -implicitDefEqProofs (disch := omega) [go_sem, -List.getD_eq_getElem?_getD, ite_yes]
        exact fin_flat rfl (by simp [isBl, h1, h2, h3])
    · simp -dsimp -implicitDefEqProofs (disch := omega) [go_sem, -List.getD_eq_getElem?_getD, ite_yes]
      exact fin_flat rfl (by simp [isBl, h1, h2])
  · simp -dsimp -implicitDefEqProofs (disch := omega) [go_sem, -List.getD_eq_getElem?_getD, ite_yes]
    exact fin_flat rfl (by simp [isBl, h1])
theorem l20Cents_A (n : Int) (H : Heap) : AFunC Tryd.prog 43 [.int .i64 n] H (.bool (inB n 1 1000000000)) H := by
  refine AFunC.of_body Tryd.func43 (by kernel_rfl) rfl (by kernel_rfl) (by simp [Tryd.ntmps43]) ?_
  simp -dsimp -implicitDefEqProofs (disch := omega) [go_sem, -List.getD_eq_getElem?_getD, ite_yes]
  refine ACall.of (l1In_A _ _ _ _) ?_
  simp -dsimp -implicitDefEqProofs (disch := omega) [go_sem, -List.getD_eq_getElem?_getD, ite_yes]
  exact fin_flat0 rfl rfl
theorem l20One_A (r : Bl) (H : Heap) : AFunC Tryd.prog 24 [.agg #[.int .i64 r.1, .int .i64 r.2.1, .int .i64 r.2.2.1, .int .i64 r.2.2.2]] H (.bool (isBl r)) H := by
  refine AFunC.of_body Tryd.func24 (by kernel_rfl) rfl (by kernel_rfl) (by simp [Tryd.ntmps24]) ?_
  simp -dsimp -implicitDefEqProofs (disch := omega) [go_sem, -List.getD_eq_getElem?_getD, ite_yes]
  refine ACall.of (l1In_A _ _ _ _) ?_
  simp -dsimp -implicitDefEqProofs (disch := omega) [go_sem, -List.getD_eq_getElem?_getD, ite_yes]
  refine AIf.of (fun h1 => ?_) (fun h1 => ?_)
  · simp -dsimp -implicitDefEqProofs (disch := omega) [go_sem, -List.getD_eq_getElem?_getD, ite_yes]
    refine ACall.of (l19Day_A _ _) ?_
    simp -dsimp -implicitDefEqProofs (disch := omega) [go_sem, -List.getD_eq_getElem?_getD, ite_yes]
    refine AIf.of (fun h2 => ?_) (fun h2 => ?_)
    · simp -dsimp -implicitDefEqProofs (disch := omega) [go_sem, -List.getD_eq_getElem?_getD, ite_yes]
      refine ACall.of (l20Cents_A _ _) ?_
      simp -dsimp -implicitDefEqProofs (disch := omega) [go_sem, -List.getD_eq_getElem?_getD, ite_yes]
      refine AIf.of (fun h3 => ?_) (fun h3 => ?_)
      · simp -dsimp -implicitDefEqProofs (disch := omega) [go_sem, -List.getD_eq_getElem?_getD, ite_yes]
        refine ACall.of (l1In_A _ _ _ _) ?_
        simp -dsimp -implicitDefEqProofs (disch := omega) [go_sem, -List.getD_eq_getElem?_getD, ite_yes]
        exact fin_flat rfl (by simp [isBl, h1, h2, h3])
      · simp -dsimp -implicitDefEqProofs (disch := omega) [go_sem, -List.getD_eq_getElem?_getD, ite_yes]
        exact fin_flat rfl (by simp [isBl, h1, h2, h3])
    · simp -dsimp -implicitDefEqProofs (disch := omega) [go_sem, -List.getD_eq_getElem?_getD, ite_yes]
      exact fin_flat rfl (by simp [isBl, h1, h2])
  · simp -dsimp -implicitDefEqProofs (disch := omega) [go_sem, -List.getD_eq_getElem?_getD, ite_yes]
    exact fin_flat rfl (by simp [isBl, h1])
/-- the bills up to the k-th stand as they should -/
def goodBTo (l : List Bl) (k : Nat) : Prop := ∀ i, i < k → isBl (l.getD i (0, 0, 0, 0)) = true ∧ (0 < i → (l.getD (i - 1) (0, 0, 0, 0)).1 < (l.getD i (0, 0, 0, 0)).1 ∧ (l.getD (i - 1) (0, 0, 0, 0)).2.1 ≤ (l.getD i (0, 0, 0, 0)).2.1)
instance goodBTo_dec (l : List Bl) (k : Nat) : Decidable (goodBTo l k) := by unfold goodBTo; infer_instance
def goodB (l : List Bl) : Bool := decide (goodBTo l l.length ∧ l.length ≤ 12)
theorem goodBTo.next {l : List Bl} {k : Nat} (h : goodBTo l k) (h1 : isBl (l.getD k (0, 0, 0, 0)) = true) (h2 : 0 < k → (l.getD (k - 1) (0, 0, 0, 0)).1 < (l.getD k (0, 0, 0, 0)).1) (h3 : 0 < k → (l.getD (k - 1) (0, 0, 0, 0)).2.1 ≤ (l.getD k (0, 0, 0, 0)).2.1) : goodBTo l (k + 1) := by
  intro i hi
  rcases Nat.lt_or_ge i k with h' | h'
  · exact h i h'
  · obtain rfl : i = k := by omega
    exact ⟨h1, fun h => ⟨h2 h, h3 h⟩⟩
theorem goodB_no {l : List Bl} {k : Nat} (hk : k < l.length) (h : isBl (l.getD k (0, 0, 0, 0)) = false ∨ 0 < k ∧ ((l.getD k (0, 0, 0, 0)).1 ≤ (l.getD (k - 1) (0, 0, 0, 0)).1 ∨ (l.getD k (0, 0, 0, 0)).2.1 < (l.getD (k - 1) (0, 0, 0, 0)).2.1)) : goodB l = false := by
  unfold goodB
  refine decide_eq_false fun h' => ?_
  have := h'.1 k hk
  rcases h with h | h
  · rw [this.1] at h; cases h
  · have := this.2 h.1; omega
theorem goodB_end {l : List Bl} (h : goodBTo l l.length) : goodB l = decide ((l.length : Int) ≤ 12) := by
  unfold goodB
  by_cases h' : l.length ≤ 12
  · rw [decide_eq_true ⟨h, h'⟩, decide_eq_true (by omega)]
  · rw [decide_eq_false (fun h => h' h.2), decide_eq_false (by omega)]
theorem goodB_at {l : List Bl} (h : goodB l = true) : l.length ≤ 12 ∧ ∀ i, i < l.length → 1 ≤ (l.getD i (0, 0, 0, 0)).1 ∧ (l.getD i (0, 0, 0, 0)).1 ≤ 999 ∧ 0 ≤ (l.getD i (0, 0, 0, 0)).2.1 ∧ (l.getD i (0, 0, 0, 0)).2.1 ≤ 3650 ∧ 1 ≤ (l.getD i (0, 0, 0, 0)).2.2.1 ∧ (l.getD i (0, 0, 0, 0)).2.2.1 ≤ 1000000000 ∧ 0 ≤ (l.getD i (0, 0, 0, 0)).2.2.2 ∧ (l.getD i (0, 0, 0, 0)).2.2.2 ≤ (l.getD i (0, 0, 0, 0)).2.2.1 ∧ (0 < i → (l.getD (i - 1) (0, 0, 0, 0)).1 < (l.getD i (0, 0, 0, 0)).1) := by
  unfold goodB at h
  have h := of_decide_eq_true h
  refine ⟨h.2, fun i hi => ?_⟩
  have := h.1 i hi
  simp only [isBl, inB, Bool.and_eq_true, decide_eq_true_eq] at this
  omega
end Go.Proofs.YtemamoobemlkcaaDoor
