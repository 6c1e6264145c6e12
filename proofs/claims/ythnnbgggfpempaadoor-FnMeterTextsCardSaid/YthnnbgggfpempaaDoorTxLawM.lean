/- FnMeterTexts: plain facts. -/
import Derived.Test.YthnnbgggfpempaaDoorHighestUse
import Derived.Test.YthnnbgggfpempaaDoorStoppedDays
import Derived.Test.YthnnbgggfpempaaDoorTotalUse
import Derived.Test.YthnnbgggfpempaaDoorUsesOf
namespace Go.Proofs.YthnnbgggfpempaaDoor
open Go.Am
set_option linter.unusedVariables false
theorem bestN_best {l : List Rd} (h : good l = true) : ∀ k, k < l.length → ∀ j, j < k → useN l j * ddN l (bestN l k) ≤ useN l (bestN l k) * ddN l j
  | 0, _, j, hj => by omega
  | k + 1, hk, j, hj => by
    have ih := bestN_best h k (by omega)
    have hb := bestN_le l k
    have pb := (ddN_pos h (i := bestN l k) (by omega)).1
    simp only [bestN]
    split
    · rename_i hlt
      rcases Nat.lt_or_ge j k with hj' | hj'
      · have h1 := ih j hj'
        refine Nat.le_of_mul_le_mul_right (?_ : _ * ddN l (bestN l k) ≤ _ * ddN l (bestN l k)) pb
        calc useN l j * ddN l k * ddN l (bestN l k) = useN l j * ddN l (bestN l k) * ddN l k := by rw [Nat.mul_right_comm]
          _ ≤ useN l (bestN l k) * ddN l j * ddN l k := Nat.mul_le_mul_right _ h1
          _ = useN l (bestN l k) * ddN l k * ddN l j := by rw [Nat.mul_right_comm]
          _ ≤ useN l k * ddN l (bestN l k) * ddN l j := Nat.mul_le_mul_right _ (Nat.le_of_lt hlt)
          _ = useN l k * ddN l j * ddN l (bestN l k) := by rw [Nat.mul_right_comm]
      · obtain rfl : j = k := by omega
        exact Nat.le_refl _
    · rename_i hlt
      rcases Nat.lt_or_ge j k with hj' | hj'
      · exact ih j hj'
      · obtain rfl : j = k := by omega
        omega
structure HighAt (l : List Rd) (i num den : Nat) : Prop where
  lt : i + 1 < l.length
  eq : (useN l i : Int) * den = num * (ddN l i : Nat)
  le : ∀ k, k + 1 < l.length → (useN l k : Int) * den ≤ num * (ddN l k : Nat)
  num_le : num ≤ 99999
  den_le : den ≤ 3650
theorem HighAt.of {l : List Rd} (h : highOk l = true) : HighAt l (bestN l (l.length - 1)) (redN (useN l (bestN l (l.length - 1))) (ddN l (bestN l (l.length - 1)))).1 (redN (useN l (bestN l (l.length - 1))) (ddN l (bestN l (l.length - 1)))).2 := by
  simp only [highOk, Bool.and_eq_true, decide_eq_true_eq] at h
  obtain ⟨g1, g2⟩ := h
  have hb := bestN_le l (l.length - 1)
  have best := bestN_best g1 (l.length - 1) (by omega)
  generalize bestN l (l.length - 1) = i at *
  have pd := ddN_pos g1 (i := i) (by omega)
  obtain ⟨g, k1, k2, k3⟩ := redN_eq (useN l i) pd.1
  have r := redN_le (useN l i) (ddN l i)
  have u := useN_le l i
  generalize (redN (useN l i) (ddN l i)).1 = num at *
  generalize (redN (useN l i) (ddN l i)).2 = den at *
  refine ⟨by omega, ?_, fun k hk => ?_, by omega, by omega⟩
  · rw [k2, k3]
    push_cast
    rw [Int.mul_assoc, Int.mul_left_comm]
  · have b := best k (by omega)
    rw [k2, k3] at b
    have b2 : g * (useN l k * den) ≤ g * (num * ddN l k) := by
      rw [Nat.mul_left_comm, ← Nat.mul_assoc]; rw [← Nat.mul_assoc] at b ⊢; exact b
    exact_mod_cast Nat.le_of_mul_le_mul_left b2 k1
theorem use_zero {a b : Rd} (ha : 0 ≤ a.2 ∧ a.2 ≤ 99999) (hb : 0 ≤ b.2 ∧ b.2 ≤ 99999) : useOf a b = 0 ↔ b.2 = a.2 := by unfold useOf; omega
theorem stop_sum {l : List Rd} (h : good l = true) : ∀ k, k + 1 ≤ l.length → 0 ≤ (usesTo l (k + 1)).sum ∧ stopTo l (k + 1) ≤ (l.getD k (0, 0)).1 - (l.getD 0 (0, 0)).1 ∧ (stopTo l (k + 1) = (l.getD k (0, 0)).1 - (l.getD 0 (0, 0)).1 ↔ (usesTo l (k + 1)).sum = 0)
  | 0, hk => by
    rw [usesTo_one]
    simp [stopTo]
  | k + 1, hk => by
    obtain ⟨i1, i2, i3⟩ := stop_sum h k (by omega)
    have g1 := (good_at h).2 k (by omega)
    have g2 := (good_at h).2 (k + 1) (by omega)
    have gd := g2.2.2.2.2 (by omega)
    rw [Nat.add_sub_cancel] at gd
    have ub := useOf_bound (a := l.getD k (0, 0)) (b := l.getD (k + 1) (0, 0))
    have uz := use_zero (a := l.getD k (0, 0)) (b := l.getD (k + 1) (0, 0)) (by omega) (by omega)
    rw [usesTo_next (by omega), List.sum_append]
    simp only [Nat.add_sub_cancel, List.sum_cons, List.sum_nil]
    by_cases e : (l.getD (k + 1) (0, 0)).2 = (l.getD k (0, 0)).2
    · rw [stopTo_yes (by omega) (by rw [Nat.add_sub_cancel]; exact e), Nat.add_sub_cancel]
      have := uz.2 e
      omega
    · rw [stopTo_no (by rw [Nat.add_sub_cancel]; exact e)]
      have : useOf (l.getD k (0, 0)) (l.getD (k + 1) (0, 0)) ≠ 0 := fun x => e (uz.1 x)
      omega
theorem stop_law {l : List Rd} (h : good l = true) (h1 : 1 < l.length) : decide (stopN l = (l.getD (l.length - 1) (0, 0)).1 - (l.getD 0 (0, 0)).1) = decide (totN l = 0) := by
  obtain ⟨_, _, h3⟩ := stop_sum h (l.length - 1) (by omega)
  rw [show l.length - 1 + 1 = l.length by omega] at h3
  rw [stopN, if_pos h, totN, if_pos h]
  exact decide_eq_decide.2 h3
end Go.Proofs.YthnnbgggfpempaaDoor
