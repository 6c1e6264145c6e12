/- Beginnings and ends of texts. -/
import Derived.Test.YthnnbgggfpempaaDoorParseN
import Derived.Test.YthnnbgggfpempaaDoorFacts
namespace Go.Proofs.YthnnbgggfpempaaDoor
open Go.Am Go.Lib
set_option linter.unusedVariables false
set_option linter.unusedSimpArgs false
set_option maxRecDepth 100000
def pfx (w l : List UInt8) : Bool := decide (w.length ≤ l.length) && (l.take w.length == w)
def sfx (w l : List UInt8) : Bool := decide (w.length ≤ l.length) && (l.drop (l.length - w.length) == w)
theorem pfx_app (w l : List UInt8) : pfx w (w ++ l) = true := by simp [pfx]
theorem sfx_app (w l : List UInt8) : sfx w (l ++ w) = true := by simp [sfx]
theorem sfx_no {w u : List UInt8} {b c : UInt8} (hb : w.getLast? = some b) (hne : b ≠ c) : sfx w (u ++ [c]) = false := by
  rw [sfx, Bool.and_eq_false_iff]
  by_cases h : w.length ≤ (u ++ [c]).length
  · right
    refine beq_false_of_ne fun e => ?_
    have h1 := congrArg List.getLast? e
    rw [hb, List.getLast?_drop, if_neg] at h1
    · rw [List.getLast?_concat] at h1
      cases h1; exact hne rfl
    · intro h2
      have : w.length = 0 := by omega
      rw [List.length_eq_zero_iff] at this
      rw [this] at hb; cases hb
  · left
    exact decide_eq_false h
theorem liteHasPrefix_A (l w : List UInt8) (hl : l.length ≤ 1048577) (hw : w.length ≤ 1048577) (H : Heap) : AFunC Tryd.prog 140 [.string (bs l), .string (bs w)] H (.bool (pfx w l)) H := by
  refine AFunC.of_body Tryd.func140 (by kernel_rfl) rfl (by kernel_rfl) (by simp [Tryd.ntmps140]) ?_
  by_cases h : w.length ≤ l.length
  · have hi : (w.length : Int) ≤ (l.length : Int) := by omega
    simp -dsimp -implicitDefEqProofs (disch := omega) [go_sem, -List.getD_eq_getElem?_getD, ite_yes, h, hi]
    exact fin_flat0 rfl (by simp [pfx, h])
  · have hi : ¬ (w.length : Int) ≤ (l.length : Int) := by omega
    simp -dsimp -implicitDefEqProofs (disch := omega) [go_sem, -List.getD_eq_getElem?_getD, ite_yes, h, hi]
    exact fin_flat0 rfl (by simp [pfx, h])
theorem hasPrefix_A (l w : List UInt8) (hl : l.length ≤ 1048577) (hw : w.length ≤ 1048577) (H : Heap) : AFunC Tryd.prog 107 [.string (bs l), .string (bs w)] H (.bool (pfx w l)) H := by
  refine AFunC.of_body Tryd.func107 (by kernel_rfl) rfl (by kernel_rfl) (by simp [Tryd.ntmps107]) ?_
  simp -dsimp -implicitDefEqProofs (disch := omega) [go_sem, -List.getD_eq_getElem?_getD, ite_yes]
  refine ACall.of (liteHasPrefix_A l w hl hw _) ?_
  simp -dsimp -implicitDefEqProofs (disch := omega) [go_sem, -List.getD_eq_getElem?_getD, ite_yes]
  exact fin_flat0 rfl rfl
theorem liteHasSuffix_A (l w : List UInt8) (hl : l.length ≤ 1048577) (hw : w.length ≤ 1048577) (H : Heap) : AFunC Tryd.prog 139 [.string (bs l), .string (bs w)] H (.bool (sfx w l)) H := by
  refine AFunC.of_body Tryd.func139 (by kernel_rfl) rfl (by kernel_rfl) (by simp [Tryd.ntmps139]) ?_
  by_cases h : w.length ≤ l.length
  · have hi : (w.length : Int) ≤ (l.length : Int) := by omega
    have e : ((l.length : Int) - (w.length : Int)).toNat = l.length - w.length := by omega
    simp -dsimp -implicitDefEqProofs (disch := omega) [go_sem, -List.getD_eq_getElem?_getD, ite_yes, h, hi, e]
    exact fin_flat0 rfl (by simp [sfx, h])
  · have hi : ¬ (w.length : Int) ≤ (l.length : Int) := by omega
    simp -dsimp -implicitDefEqProofs (disch := omega) [go_sem, -List.getD_eq_getElem?_getD, ite_yes, h, hi]
    exact fin_flat0 rfl (by simp [sfx, h])
theorem hasSuffix_A (l w : List UInt8) (hl : l.length ≤ 1048577) (hw : w.length ≤ 1048577) (H : Heap) : AFunC Tryd.prog 106 [.string (bs l), .string (bs w)] H (.bool (sfx w l)) H := by
  refine AFunC.of_body Tryd.func106 (by kernel_rfl) rfl (by kernel_rfl) (by simp [Tryd.ntmps106]) ?_
  simp -dsimp -implicitDefEqProofs (disch := omega) [go_sem, -List.getD_eq_getElem?_getD, ite_yes]
  refine ACall.of (liteHasSuffix_A l w hl hw _) ?_
  simp -dsimp -implicitDefEqProofs (disch := omega) [go_sem, -List.getD_eq_getElem?_getD, ite_yes]
  exact fin_flat0 rfl rfl
theorem liteTrimPrefix_A (l w : List UInt8) (hl : l.length ≤ 1048577) (hw : w.length ≤ 1048577) (H : Heap) : AFunC Tryd.prog 124 [.string (bs l), .string (bs w)] H (.string (bs (if pfx w l = true then l.drop w.length else l))) H := by
  refine AFunC.of_body Tryd.func124 (by kernel_rfl) rfl (by kernel_rfl) (by simp [Tryd.ntmps124]) ?_
  simp -dsimp -implicitDefEqProofs (disch := omega) [go_sem, -List.getD_eq_getElem?_getD, ite_yes]
  refine ACall.of (liteHasPrefix_A l w hl hw _) ?_
  cases h : pfx w l
  · simp -dsimp -implicitDefEqProofs (disch := omega) [go_sem, -List.getD_eq_getElem?_getD, ite_yes]
    exact fin_flat0 rfl rfl
  · have h1 : w.length ≤ l.length := by
      simp only [pfx, Bool.and_eq_true, decide_eq_true_eq] at h; exact h.1
    simp -dsimp -implicitDefEqProofs (disch := omega) [go_sem, -List.getD_eq_getElem?_getD, ite_yes, h1]
    exact fin_flat0 rfl rfl
theorem trimPrefix_A (l w : List UInt8) (hl : l.length ≤ 1048577) (hw : w.length ≤ 1048577) (H : Heap) : AFunC Tryd.prog 80 [.string (bs l), .string (bs w)] H (.string (bs (if pfx w l = true then l.drop w.length else l))) H := by
  refine AFunC.of_body Tryd.func80 (by kernel_rfl) rfl (by kernel_rfl) (by simp [Tryd.ntmps80]) ?_
  simp -dsimp -implicitDefEqProofs (disch := omega) [go_sem, -List.getD_eq_getElem?_getD, ite_yes]
  refine ACall.of (liteTrimPrefix_A l w hl hw _) ?_
  simp -dsimp -implicitDefEqProofs (disch := omega) [go_sem, -List.getD_eq_getElem?_getD, ite_yes]
  exact fin_flat0 rfl rfl
end Go.Proofs.YthnnbgggfpempaaDoor
