/- FnBills: plain facts. -/
import Derived.Test.YthnnbgggfpempaaDoorOpenCents
import Derived.Test.YthnnbgggfpempaaDoorPayBills
import Derived.Test.YthnnbgggfpempaaDoorOldestOpen
import Derived.Test.YthnnbgggfpempaaDoorInstallments
namespace Go.Proofs.YthnnbgggfpempaaDoor
open Go.Am
set_option linter.unusedVariables false
set_option linter.unusedSimpArgs false

theorem goodB_mk {l : List Bl} (h : goodBTo l l.length) (hl : l.length ≤ 12) : goodB l = true := decide_eq_true ⟨h, hl⟩
theorem pay_good {l : List Bl} {cents : Int} (h : goodB l = true) (hc : 0 ≤ cents ∧ cents ≤ 1000000000) : goodB (payL l cents) = true := by
  have h2 := (of_decide_eq_true h).1
  refine goodB_mk (fun i hi => ?_) (by rw [payL_length]; exact (goodB_at h).1)
  rw [payL_length] at hi
  have hi2 := h2 i hi
  have g := (goodB_at h).2 i hi
  have pb := payN_bound h hc i (by omega)
  rw [payL_getD l cents hi]
  refine ⟨?_, fun h0 => ?_⟩
  · have := hi2.1
    simp only [isBl, inB, Bool.and_eq_true, decide_eq_true_eq] at this
    simp only [isBl, inB, Bool.and_eq_true, decide_eq_true_eq]
    simp only [payB, ownOf]
    omega
  · rw [payL_getD l cents (show i - 1 < l.length by omega)]
    exact hi2.2 h0
theorem open_pay {l : List Bl} {cents : Int} : ∀ k, k ≤ l.length → openTo (payL l cents) k = openTo l k - (cents - payN l cents k)
  | 0, _ => by simp [openTo, payN]
  | k + 1, hk => by
    have ih := open_pay (l := l) (cents := cents) k (by omega)
    rw [openTo, openTo, ih, payL_getD l cents (by omega), payN]
    simp only [payB]
    omega
theorem payN_zero {l : List Bl} {cents : Int} (h : goodB l = true) {k : Nat} (h0 : payN l cents k = 0) : ∀ j, k + j ≤ l.length → payN l cents (k + j) = 0
  | 0, _ => h0
  | j + 1, hj => by
    have ih := payN_zero h h0 j (by omega)
    have g := (goodB_at h).2 (k + j) (by omega)
    rw [← Nat.add_assoc, payN, ih]
    simp only [ownOf]
    omega
theorem open_none {l : List Bl} {cents : Int} (h : goodB l = true) (hc : 0 ≤ cents ∧ cents ≤ 1000000000) (hl : 0 < payN l cents l.length) : ∀ k, k ≤ l.length → openTo (payL l cents) k = 0
  | 0, _ => rfl
  | k + 1, hk => by
    have ih := open_none h hc hl k (by omega)
    have g := (goodB_at h).2 k (by omega)
    have pb := payN_bound h hc k (by omega)
    rw [openTo, ih, payL_getD l cents (by omega)]
    simp only [payB, ownOf]
    by_cases hm : (l.getD k (0, 0, 0, 0)).2.2.1 - (l.getD k (0, 0, 0, 0)).2.2.2 ≤ payN l cents k
    · omega
    · exfalso
      have hz : payN l cents (k + 1) = 0 := by
        rw [payN]
        simp only [ownOf]
        omega
      have := payN_zero h hz (l.length - (k + 1)) (by omega)
      rw [show k + 1 + (l.length - (k + 1)) = l.length by omega] at this
      omega
theorem open_pos {l : List Bl} (h : goodB l = true) {r : Int} (hr : Found (0, 0, 0, 0) isOpenB l r) : decide (0 ≤ r) = decide (0 < openTo l l.length) := by
  have mono : ∀ i k, i ≤ k → k ≤ l.length → openTo l i ≤ openTo l k := by
    intro i k hik hk
    induction k with
    | zero => rw [show i = 0 by omega]; exact Int.le_refl _
    | succ k ih =>
      rcases Nat.lt_or_ge i (k + 1) with h' | h'
      · have := ih (by omega) (by omega)
        have g := (goodB_at h).2 k (by omega)
        rw [openTo]; omega
      · rw [show i = k + 1 by omega]; exact Int.le_refl _
  cases hr with
  | yes i h1 h2 h3 =>
    have ho : (l.getD i (0, 0, 0, 0)).2.2.2 < (l.getD i (0, 0, 0, 0)).2.2.1 := of_decide_eq_true h2
    have h0 := (openTo_bound h i (by omega)).1
    have := mono (i + 1) l.length (by omega) (Nat.le_refl _)
    rw [openTo] at this
    rw [decide_eq_true (by omega), decide_eq_true (by omega)]
  | no h3 =>
    have hz : ∀ k, k ≤ l.length → openTo l k ≤ 0 := by
      intro k hk
      induction k with
      | zero => exact Int.le_refl _
      | succ k ih =>
        have := ih (by omega)
        have hn : ¬ (l.getD k (0, 0, 0, 0)).2.2.2 < (l.getD k (0, 0, 0, 0)).2.2.1 := of_decide_eq_false (h3 k (by omega))
        rw [openTo]; omega
    have := hz l.length (Nat.le_refl _)
    rw [decide_eq_false (by omega), decide_eq_false (by omega)]
/-! ### Installments -/
theorem inst_at {cents n : Int} (h : instOk cents n = true) : 1 ≤ cents ∧ cents ≤ 1000000000 ∧ 1 ≤ n ∧ n ≤ 12 ∧ n ≤ cents := by
  simp only [instOk, inB, Bool.and_eq_true, decide_eq_true_eq] at h
  exact ⟨h.1.1.1, h.1.1.2, h.1.2.1, h.1.2.2, h.2⟩
theorem insts_getD (cents n : Int) {k i : Nat} (h : i < k) : (insts cents n k).getD i 0 = instAt cents n i := by simp [insts, List.getD, h]
theorem insts_sum (cents n : Int) : ∀ k : Nat, (insts cents n k).sum = (k : Int) * (cents / n) + min (k : Int) (cents % n) ∨ cents % n < 0
  | 0 => by
    rcases Int.lt_or_le (cents % n) 0 with h | h
    · exact .inr h
    · left
      simp only [insts, List.range_zero, List.map_nil, List.sum_nil, Int.natCast_zero, Int.zero_mul]
      omega
  | k + 1 => by
    rcases insts_sum cents n k with h | h
    · left
      have e : insts cents n (k + 1) = insts cents n k ++ [instAt cents n k] := by simp [insts, List.range_succ]
      rw [e, List.sum_append, h, List.sum_cons, List.sum_nil]
      have : ((k + 1 : Nat) : Int) * (cents / n) = (k : Int) * (cents / n) + cents / n := by push_cast; rw [Int.add_mul, Int.one_mul]
      rw [this]
      unfold instAt
      split <;> omega
    · exact .inr h
theorem insts_all {cents n : Int} (h : instOk cents n = true) : (insts cents n n.toNat).sum = cents := by
  obtain ⟨h1, h2, h3, h4, h5⟩ := inst_at h
  have e0 := Int.emod_nonneg cents (show n ≠ 0 by omega)
  have e1 := Int.emod_lt_of_pos cents (show 0 < n by omega)
  rcases insts_sum cents n n.toNat with h | h
  · rw [h, Int.toNat_of_nonneg (by omega)]
    have := Int.mul_ediv_add_emod cents n
    omega
  · omega
theorem instAt_rng {cents n : Int} (h : instOk cents n = true) (i : Nat) : 0 ≤ instAt cents n i ∧ instAt cents n i ≤ 1000000001 ∧ cents / n ≤ instAt cents n i ∧ instAt cents n i ≤ cents / n + 1 := by
  obtain ⟨h1, h2, h3, h4, h5⟩ := inst_at h
  have e0 : 0 ≤ cents / n := Int.ediv_nonneg (by omega) (by omega)
  have e1 : cents / n ≤ cents := Int.ediv_le_self _ (by omega)
  unfold instAt
  split <;> omega
end Go.Proofs.YthnnbgggfpempaaDoor
