/- UseUpTo: the plain law. -/
import Derived.Test.YthnnbgggfpempaaDoorUses
import Derived.Test.YthnnbgggfpempaaDoorFrac
namespace Go.Proofs.YthnnbgggfpempaaDoor
open Go.Am
set_option linter.unusedVariables false

def dayN (l : List Rd) (i : Nat) : Nat := (l.getD i (0, 0)).1.toNat
def useN (l : List Rd) (i : Nat) : Nat := (useOf (l.getD i (0, 0)) (l.getD (i + 1) (0, 0))).toNat
theorem dayN_eq {l : List Rd} (h : good l = true) {i : Nat} (hi : i < l.length) : (l.getD i (0, 0)).1 = (dayN l i : Int) := by
  have := (good_at h).2 i hi
  unfold dayN; omega
theorem useN_eq (l : List Rd) (i : Nat) : useOf (l.getD i (0, 0)) (l.getD (i + 1) (0, 0)) = (useN l i : Int) := by
  have := useOf_bound (a := l.getD i (0, 0)) (b := l.getD (i + 1) (0, 0))
  unfold useN; omega
theorem useN_le (l : List Rd) (i : Nat) : useN l i ≤ 99999 := by
  have := useOf_bound (a := l.getD i (0, 0)) (b := l.getD (i + 1) (0, 0))
  unfold useN; omega
theorem dayN_le {l : List Rd} (h : good l = true) {i : Nat} (hi : i < l.length) : dayN l i ≤ 3650 := by
  have := (good_at h).2 i hi
  unfold dayN; omega
theorem dayN_lt {l : List Rd} (h : good l = true) {i : Nat} (hi : i + 1 < l.length) : dayN l i < dayN l (i + 1) := by
  have := ((good_at h).2 (i + 1) hi).2.2.2.2 (by omega)
  rw [Nat.add_sub_cancel] at this
  have e1 := dayN_eq h (show i < l.length by omega)
  have e2 := dayN_eq h hi
  omega
theorem dayN_mono {l : List Rd} (h : good l = true) : ∀ (d i : Nat), i + d < l.length → dayN l i ≤ dayN l (i + d)
  | 0, i, _ => Nat.le_refl _
  | d + 1, i, hi => by
    have ih := dayN_mono h d i (by omega)
    have := dayN_lt h (i := i + d) (by omega)
    rw [show i + (d + 1) = i + d + 1 by omega]
    omega
/-- the sum of the first k uses -/
def sumN (l : List Rd) : Nat → Nat
  | 0 => 0
  | k + 1 => sumN l k + useN l k
theorem sumN_eq (l : List Rd) : ∀ k, (usesTo l (k + 1)).sum = (sumN l k : Int)
  | 0 => by simp [usesTo, sumN]
  | k + 1 => by
    rw [usesTo_next (by omega), List.sum_append, sumN_eq l k]
    simp only [Nat.add_sub_cancel, List.sum_cons, List.sum_nil, sumN, useN_eq]
    omega
theorem sumN_le (l : List Rd) : ∀ k, sumN l k ≤ 99999 * k
  | 0 => by simp [sumN]
  | k + 1 => by
    have := sumN_le l k
    have := useN_le l k
    simp only [sumN]; omega
/-- where the day D lies -/
structure DayAt (l : List Rd) (D j : Nat) : Prop where
  lt : j < l.length
  low : dayN l j ≤ D
  high : j + 1 < l.length → D < dayN l (j + 1)
def resN (l : List Rd) (D j : Nat) : Nat × Nat := if dayN l j = D then (sumN l j, 1) else redN (sumN l j * (dayN l (j + 1) - dayN l j) + useN l j * (D - dayN l j)) (dayN l (j + 1) - dayN l j)
def partN (l : List Rd) (D j k : Nat) : Nat × Nat := if k ≤ j then (sumN l k, 1) else resN l D j
theorem DayAt.uniq {l : List Rd} (h : good l = true) {D i j : Nat} (hi : DayAt l D i) (hj : DayAt l D j) : i = j := by
  rcases Nat.lt_trichotomy i j with h' | h' | h'
  · have := hi.high (by have := hj.lt; omega)
    have := dayN_mono h (j - (i + 1)) (i + 1) (by have := hj.lt; omega)
    rw [show i + 1 + (j - (i + 1)) = j by omega] at this
    have := hj.low
    omega
  · exact h'
  · have := hj.high (by have := hi.lt; omega)
    have := dayN_mono h (i - (j + 1)) (j + 1) (by have := hi.lt; omega)
    rw [show j + 1 + (i - (j + 1)) = i by omega] at this
    have := hi.low
    omega
theorem DayAt.next {l : List Rd} {D : Nat} : ∀ (m i : Nat), l.length - i = m → i < l.length → dayN l i ≤ D → ∃ j, DayAt l D j
  | 0, i, h1, h2, h3 => by omega
  | m + 1, i, h1, h2, h3 => by
    by_cases h : i + 1 < l.length ∧ dayN l (i + 1) ≤ D
    · exact DayAt.next m (i + 1) (by omega) h.1 h.2
    · exact ⟨i, h2, h3, fun h' => by
        rcases Nat.lt_or_ge D (dayN l (i + 1)) with h4 | h4
        · exact h4
        · exact absurd ⟨h', h4⟩ h⟩
theorem partN_next {l : List Rd} (h : good l = true) {D j k : Nat} (hj : DayAt l D j) (hk : k + 1 < l.length) :
    partN l D j (k + 1) = plusN (partN l D j k) (redN (useN l k * (min D (dayN l (k + 1)) - dayN l k)) (dayN l (k + 1) - dayN l k)) := by
  have hlt := dayN_lt h hk
  have hd : 0 < dayN l (k + 1) - dayN l k := by omega
  rcases Nat.lt_trichotomy k j with h' | h' | h'
  · have := dayN_mono h (j - (k + 1)) (k + 1) (by have := hj.lt; omega)
    rw [show k + 1 + (j - (k + 1)) = j by omega] at this
    have := hj.low
    unfold partN
    rw [if_pos (by omega), if_pos (by omega), Nat.min_eq_right (by omega), redN_whole _ hd, plusN_whole]
    rfl
  · subst h'
    have h1 := hj.low
    have h2 := hj.high hk
    unfold partN
    rw [if_neg (by omega), if_pos (by omega), Nat.min_eq_left (by omega)]
    by_cases h3 : dayN l k = D
    · have e : D - dayN l k = 0 := by omega
      rw [e, Nat.mul_zero, redN_zero hd, plusN_whole]
      unfold resN
      rw [if_pos h3]
      rfl
    · rw [plusN_part _ _ hd]
      unfold resN
      rw [if_neg h3]
  · have h2 := hj.high (by omega)
    have := dayN_mono h (k - (j + 1)) (j + 1) (by omega)
    rw [show j + 1 + (k - (j + 1)) = k by omega] at this
    unfold partN
    rw [if_neg (by omega), if_neg (by omega), show min D (dayN l (k + 1)) - dayN l k = 0 by omega, Nat.mul_zero, redN_zero hd]
    unfold resN
    split
    · exact (plusN_whole _ 0).symm
    · have hlj := dayN_lt h (i := j) (by omega)
      exact (plusN_zero (by omega)).symm
theorem partN_end {l : List Rd} (h : good l = true) {D j : Nat} (hj : DayAt l D j) (hD : D ≤ dayN l (l.length - 1)) : partN l D j (l.length - 1) = resN l D j := by
  unfold partN
  split
  · have : j = l.length - 1 := by have := hj.lt; omega
    subst this
    unfold resN
    rw [if_pos (by have := hj.low; omega)]
  · rfl
theorem resN_le {l : List Rd} (h : good l = true) {D j : Nat} (hj : DayAt l D j) (hD : D ≤ dayN l (l.length - 1)) : (resN l D j).1 ≤ 5000000000 ∧ 0 < (resN l D j).2 ∧ (resN l D j).2 ≤ 3650 := by
  have h12 := (good_at h).1
  have hs := sumN_le l j
  have hlt := hj.lt
  have hD2 := dayN_le h (show l.length - 1 < l.length by omega)
  unfold resN
  split
  · exact ⟨by simp only; omega, by simp, by simp⟩
  · rename_i hne
    have hj1 : j + 1 < l.length := by
      rcases Nat.lt_or_ge (j + 1) l.length with h' | h'
      · exact h'
      · exfalso
        have e : j = l.length - 1 := by omega
        have := hj.low
        rw [← e] at hD
        omega
    have h1 := dayN_lt h hj1
    have h2 := dayN_le h hj1
    have h3 := redN_le (sumN l j * (dayN l (j + 1) - dayN l j) + useN l j * (D - dayN l j)) (dayN l (j + 1) - dayN l j)
    have m1 := Nat.mul_le_mul (show sumN l j ≤ 1199988 by omega) (show dayN l (j + 1) - dayN l j ≤ 3650 by omega)
    have m2 := Nat.mul_le_mul (useN_le l j) (show D - dayN l j ≤ 3650 by omega)
    exact ⟨by omega, redN_pos (by omega), by omega⟩
theorem partN_le {l : List Rd} (h : good l = true) {D j k : Nat} (hj : DayAt l D j) (hD : D ≤ dayN l (l.length - 1)) (hk : k < l.length) : (partN l D j k).1 ≤ 5000000000 ∧ 0 < (partN l D j k).2 ∧ (partN l D j k).2 ≤ 3650 := by
  have h12 := (good_at h).1
  unfold partN
  split
  · have := sumN_le l k
    exact ⟨by simp only; omega, by simp, by simp⟩
  · exact resN_le h hj hD
end Go.Proofs.YthnnbgggfpempaaDoor
