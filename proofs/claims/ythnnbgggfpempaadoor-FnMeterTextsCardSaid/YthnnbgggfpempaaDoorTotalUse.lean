/- TotalUse: both sides, and the law. -/
import Derived.Test.YthnnbgggfpempaaDoorUses
namespace Go.Proofs.YthnnbgggfpempaaDoor
open Go.Am
set_option linter.unusedVariables false
set_option linter.unusedSimpArgs false
set_option maxRecDepth 100000

def totN (l : List Rd) : Int := if good l = true then (uses l).sum else 0
theorem iTotal_A (l : List Rd) (hl : l.length ≤ 1048577) (c : Nat) (H : Heap) (t : Nat) (hS : Sl rdE H t l) :
    AFunC Tryd.prog 20 [.slice (some ⟨t, 0, none⟩) l.length c] H (.tuple #[.int .i64 (totN l), .bool (good l)]) H := by
  refine AFunC.of_body Tryd.func20 (by kernel_rfl) rfl (by kernel_rfl) (by simp [Tryd.ntmps20]) ?_
  have ht := hS.lt
  simp -dsimp -implicitDefEqProofs (disch := omega) [go_sem, -List.getD_eq_getElem?_getD, ite_yes]
  refine ACall.of (iValidReadings_A l hl c H t hS) ?_
  simp -dsimp -implicitDefEqProofs (disch := omega) [go_sem, -List.getD_eq_getElem?_getD, ite_yes]
  refine AIf.of (fun h => ?_) (fun h => ?_)
  · simp -dsimp -implicitDefEqProofs (disch := omega) [go_sem, -List.getD_eq_getElem?_getD, ite_yes]
    exact fin_flat0 rfl (by simp at h; simp [totN, h])
  have hg : good l = true := by simpa using h
  have hu : (uses l).length ≤ 1048577 := by unfold uses; rw [usesTo_length]; omega
  simp -dsimp -implicitDefEqProofs (disch := omega) [go_sem, -List.getD_eq_getElem?_getD, ite_yes]
  refine ACall.of (usesOf_A l hg c H t hS) ?_
  simp -dsimp -implicitDefEqProofs (disch := omega) [go_sem, -List.getD_eq_getElem?_getD, ite_yes]
  refine ACall.of (sumInts_A (uses l) uses_bound hu _ _ _ (Sl.of rfl)) ?_
  simp -dsimp -implicitDefEqProofs (disch := omega) [go_sem, -List.getD_eq_getElem?_getD, ite_yes]
  exact fin_flat rfl (by simp [totN, hg])
end Go.Proofs.YthnnbgggfpempaaDoor
