/- FnBillTexts: plain facts. -/
import Derived.Test.YthnnbgggfpempaaDoorReminder
import Derived.Test.YthnnbgggfpempaaDoorBillsLaw
namespace Go.Proofs.YthnnbgggfpempaaDoor
open Go.Am
set_option linter.unusedVariables false
theorem lev_mono (l : List Bl) (day : Int) : ∀ k, levTo l day k ≤ levTo l (day + 1) k
  | 0 => Int.le_refl _
  | k + 1 => by
    have ih := lev_mono l day k
    have hq : remQ (l.getD k (0, 0, 0, 0)) day ≤ remQ (l.getD k (0, 0, 0, 0)) (day + 1) := by unfold remQ; omega
    simp only [levTo]
    split <;> omega
theorem lev_paid {l : List Bl} {cents : Int} (day : Int) (h : goodB l = true) (hc : 0 ≤ cents ∧ cents ≤ 1000000000) : ∀ k, k ≤ l.length → levTo (payL l cents) day k ≤ levTo l day k
  | 0, _ => Int.le_refl _
  | k + 1, hk => by
    have ih := lev_paid day h hc k (by omega)
    have b := (payN_bound h hc k (by omega))
    have hat := (goodB_at h).2 k (by omega)
    have hb := levTo_bound l day k
    simp only [levTo]
    rw [payL_getD l cents (by omega)]
    have e1 : (payB l cents k).2.2.1 = (l.getD k (0, 0, 0, 0)).2.2.1 := rfl
    have e2 : (payB l cents k).2.2.2 = (l.getD k (0, 0, 0, 0)).2.2.2 + ownOf (l.getD k (0, 0, 0, 0)) (payN l cents k) := rfl
    have e3 : remQ (payB l cents k) day = remQ (l.getD k (0, 0, 0, 0)) day := rfl
    rw [e1, e2, e3]
    generalize l.getD k (0, 0, 0, 0) = x at *
    have e4 : 0 ≤ ownOf x (payN l cents k) := by unfold ownOf; omega
    split
    · rw [if_pos (by omega)]; omega
    · split <;> omega
theorem lev_none {l : List Bl} (day : Int) (h : goodB l = true) : ∀ k, k ≤ l.length → openTo l k = 0 → levTo l day k = 0
  | 0, _, _ => rfl
  | k + 1, hk, h0 => by
    have b := openTo_bound h k (by omega)
    have hat := (goodB_at h).2 k (by omega)
    simp only [openTo] at h0
    have ih := lev_none day h k (by omega) (by omega)
    simp only [levTo]
    rw [if_neg (by omega)]
    exact ih
end Go.Proofs.YthnnbgggfpempaaDoor
