/- FnMeters: plain facts. -/
import Derived.Test.YtfpikkhbkmchgaaUseUpTo
import Derived.Test.YtfpikkhbkmchgaaNextCount
import Derived.Test.YtfpikkhbkmchgaaAddReading
namespace Go.Proofs.Ytfpikkhbkmchgaa
open Go.Am
set_option linter.unusedVariables false

theorem turned {l : List Rd} (h : good l = true) : ∀ k, k + 1 ≤ l.length → ((l.getD 0 (0, 0)).2 + (usesTo l (k + 1)).sum) % 100000 = (l.getD k (0, 0)).2
  | 0, hk => by
    have := (good_at h).2 0 (by omega)
    rw [usesTo_one]
    simp only [List.sum_nil]
    omega
  | k + 1, hk => by
    have ih := turned h k (by omega)
    have h1 := (good_at h).2 k (by omega)
    have h2 := (good_at h).2 (k + 1) (by omega)
    rw [usesTo_next (by omega), List.sum_append]
    simp only [Nat.add_sub_cancel, List.sum_cons, List.sum_nil]
    unfold useOf
    generalize (l.getD 0 (0, 0)).2 = a at *
    generalize (usesTo l (k + 1)).sum = s at *
    omega
/-- what the law asks of a list of good readings -/
structure LastDay (l : List Rd) : Prop where
  f_first : useOk l (l.getD 0 (0, 0)).1 = true
  f_last : useOk l (lastOf l).1 = true
  f_at0 : DayAt l (l.getD 0 (0, 0)).1.toNat 0
  f_at : DayAt l (lastOf l).1.toNat (l.length - 1)
  f_zero : resN l (l.getD 0 (0, 0)).1.toNat 0 = (0, 1)
  f_num : (((resN l (lastOf l).1.toNat (l.length - 1)).1 : Nat) : Int) = (uses l).sum
  f_den : (resN l (lastOf l).1.toNat (l.length - 1)).2 = 1
  f_turn : ((l.getD 0 (0, 0)).2 + (uses l).sum) % 100000 = (lastOf l).2
  f_day : ((lastOf l).1.toNat : Int) = (lastOf l).1
  f_day0 : ((l.getD 0 (0, 0)).1.toNat : Int) = (l.getD 0 (0, 0)).1
theorem LastDay.of {l : List Rd} (h : good l = true) (h0 : 0 < l.length) : LastDay l := by
  have g1 := (good_at h).2 0 h0
  have g2 := (good_at h).2 (l.length - 1) (by omega)
  have m := dayN_mono h (l.length - 1) 0 (by omega)
  rw [Nat.zero_add] at m
  have e0 := dayN_eq h h0
  have e1 := dayN_eq h (show l.length - 1 < l.length by omega)
  have el : l.getD (l.length - 1) (0, 0) = lastOf l := rfl
  rw [el] at g2 e1
  have k0 : (l.getD 0 (0, 0)).1.toNat = dayN l 0 := rfl
  have k1 : (lastOf l).1.toNat = dayN l (l.length - 1) := rfl
  have r1 : resN l (dayN l (l.length - 1)) (l.length - 1) = (sumN l (l.length - 1), 1) := if_pos rfl
  have r0 : resN l (dayN l 0) 0 = (0, 1) := if_pos rfl
  have su : (sumN l (l.length - 1) : Int) = (uses l).sum := by
    rw [← sumN_eq, show l.length - 1 + 1 = l.length by omega]
    rfl
  have t := turned h (l.length - 1) (by omega)
  rw [show l.length - 1 + 1 = l.length by omega] at t
  refine ⟨?_, ?_, ?_, ?_, ?_, ?_, ?_, t, by omega, by omega⟩
  · simp only [useOk, h, inB, Bool.true_and, Bool.and_eq_true, decide_eq_true_eq]
    rw [el]
    omega
  · simp only [useOk, h, inB, Bool.true_and, Bool.and_eq_true, decide_eq_true_eq]
    rw [el]
    omega
  · rw [k0]; exact ⟨h0, Nat.le_refl _, fun h' => dayN_lt h h'⟩
  · rw [k1]; exact ⟨by omega, Nat.le_refl _, fun h' => by omega⟩
  · rw [k0]; exact r0
  · rw [k1, r1]; exact su
  · rw [k1, r1]
theorem lastNext {l : List Rd} (h : good l = true) (h2 : 2 ≤ l.length) : nextOk l (lastOf l).1 = true ∧ nextN l (lastOf l).1 = (lastOf l).2 := by
  have g2 := (good_at h).2 (l.length - 1) (by omega)
  have el : l.getD (l.length - 1) (0, 0) = lastOf l := rfl
  rw [el] at g2
  have ok : nextOk l (lastOf l).1 = true := by
    simp only [nextOk, h, inB, Bool.true_and, Bool.and_eq_true, decide_eq_true_eq]
    omega
  refine ⟨ok, ?_⟩
  obtain ⟨_, _, _, f4, f5, _, _⟩ := NextAt.of ok
  have e : moreN l (lastOf l).1 = 0 := by
    unfold moreN
    rw [Int.sub_self, Int.mul_zero, Int.zero_add]
    exact Int.ediv_eq_zero_of_lt (by omega) (by omega)
  unfold nextN
  rw [e]
  omega
theorem nextShort {l : List Rd} (d : Int) (h2 : l.length < 2) : nextOk l d = false := by
  unfold nextOk
  rw [decide_eq_false (show ¬ 2 ≤ l.length by omega)]
  simp
theorem addGood {l : List Rd} {r : Rd} {most : Int} (h : addOk l r most = true) : good (l ++ [r]) = true ∧ (0 < l.length → useOf (l.getD (l.length - 1) (0, 0)) r ≤ most) := by
  simp only [addOk, Bool.and_eq_true, Bool.or_eq_true, decide_eq_true_eq] at h
  exact ⟨h.1.2, fun h0 => by rcases h.2 with h' | h' <;> omega⟩
end Go.Proofs.Ytfpikkhbkmchgaa
