/- TotalUse: both sides, and the law. -/
import Derived.Test.YtnocfipolefnaaaUses
namespace Go.Proofs.Ytnocfipolefnaaa
open Go.Am
set_option linter.unusedVariables false
set_option linter.unusedSimpArgs false
set_option maxRecDepth 100000

def totN (l : List Rd) : Int := if good l = true then (uses l).sum else 0
theorem iTotal_A (l : List Rd) (hl : l.length ≤ 1048577) (c : Nat) (H : Heap) (t : Nat) (hS : Sl rdE H t l) :
    AFunC Try.prog 28 [.slice (some ⟨t, 0, none⟩) l.length c] H (.tuple #[.int .i64 (totN l), .bool (good l)]) H := by
  refine AFunC.of_body Try.func28 (by kernel_rfl) rfl (by kernel_rfl) (by simp [Try.ntmps28]) ?_
  have ht := hS.lt
  simp -dsimp -implicitDefEqProofs (disch := omega) [go_sem, -List.getD_eq_getElem?_getD, ite_yes]
  refine ACall.of (iValidReadings_A l hl c H t hS) ?_
  simp -dsimp -implicitDefEqProofs (disch := omega) [go_sem, -List.getD_eq_getElem?_getD, ite_yes]
  refine AIf.of (fun h => ?_) (fun h => ?_)
  · simp -dsimp -implicitDefEqProofs (disch := omega) [go_sem, -List.getD_eq_getElem?_getD, ite_yes]
    exact fin_flat0 rfl (by simp at h; simp [totN, h])
  have hg : good l = true := by simpa using h
  have hu : (uses l).length ≤ 1048577 := by unfold uses; rw [usesTo_length]; omega
  simp -dsimp -implicitDefEqProofs (disch := omega) [go_sem, -List.getD_eq_getElem?_getD, ite_yes]
  refine ACall.of (usesOf_A l hg c H t hS) ?_
  simp -dsimp -implicitDefEqProofs (disch := omega) [go_sem, -List.getD_eq_getElem?_getD, ite_yes]
  refine ACall.of (sumInts_A (uses l) uses_bound hu _ _ _ (Sl.of rfl)) ?_
  simp -dsimp -implicitDefEqProofs (disch := omega) [go_sem, -List.getD_eq_getElem?_getD, ite_yes]
  exact fin_flat rfl (by simp [totN, hg])
theorem sTotal_A (l : List Rd) (hl : l.length ≤ 1048577) (c : Nat) (H : Heap) (t : Nat) (hS : Sl rdE H t l) :
    AFunC Try.prog 27 [.slice (some ⟨t, 0, none⟩) l.length c] H (.tuple #[.int .i64 (totN l), .bool (good l)]) H := by
  refine AFunC.of_body Try.func27 (by kernel_rfl) rfl (by kernel_rfl) (by simp [Try.ntmps27]) ?_
  have ht := hS.lt
  simp -dsimp -implicitDefEqProofs (disch := omega) [go_sem, -List.getD_eq_getElem?_getD, ite_yes]
  refine ACall.of (l19Good_A l hl c H t hS) ?_
  simp -dsimp -implicitDefEqProofs (disch := omega) [go_sem, -List.getD_eq_getElem?_getD, ite_yes]
  refine AIf.of (fun h => ?_) (fun h => ?_)
  · simp -dsimp -implicitDefEqProofs (disch := omega) [go_sem, -List.getD_eq_getElem?_getD, ite_yes]
    exact fin_flat0 rfl (by simp at h; simp [totN, h])
  have hg : good l = true := by simpa using h
  simp -dsimp -implicitDefEqProofs (disch := omega) [go_sem, -List.getD_eq_getElem?_getD, ite_yes]
  refine ACall.of (l19Total_A l l.length (Nat.le_refl _) hg c H t hS) ?_
  simp -dsimp -implicitDefEqProofs (disch := omega) [go_sem, -List.getD_eq_getElem?_getD, ite_yes]
  exact fin_flat0 rfl (by simp [totN, hg, uses])
/-- the law -/
theorem lawTotalUse_A (l : List Rd) (hl : l.length ≤ 9223372036854775807) (c : Nat) (H : Heap) (t : Nat) (hS : Sl rdE H t l) :
    AFunC Try.prog 8 [.slice (some ⟨t, 0, none⟩) l.length c] H (.bool true) H := by
  refine AFunC.of_body Try.func8 (by kernel_rfl) rfl (by kernel_rfl) (by simp [Try.ntmps8]) ?_
  have ht := hS.lt
  simp -dsimp -implicitDefEqProofs (disch := omega) [go_sem, -List.getD_eq_getElem?_getD, ite_yes]
  refine ACall.of (szMR_A l.length c (by omega) _ (by omega) (by omega) t H) ?_
  simp -dsimp -implicitDefEqProofs (disch := omega) [go_sem, -List.getD_eq_getElem?_getD, ite_yes]
  refine AIf.of (fun h => ?_) (fun h => ?_)
  · simp -dsimp -implicitDefEqProofs (disch := omega) [go_sem, -List.getD_eq_getElem?_getD, ite_yes]
    exact fin_flat0 rfl rfl
  have hlen : l.length ≤ 1048577 := by
    have h : ¬ szL l.length 1048576 < 0 := by simpa using h
    unfold szL at h
    split at h <;> omega
  simp -dsimp -implicitDefEqProofs (disch := omega) [go_sem, -List.getD_eq_getElem?_getD, ite_yes]
  refine ACall.of (toMRS_A l hlen c H t hS) ?_
  simp -dsimp -implicitDefEqProofs (disch := omega) [go_sem, -List.getD_eq_getElem?_getD, ite_yes]
  refine ACall.of (sTotal_A l hlen _ _ _ (Sl.of rfl)) ?_
  simp -dsimp -implicitDefEqProofs (disch := omega) [go_sem, -List.getD_eq_getElem?_getD, ite_yes]
  refine ACall.of (toMRS_A l hlen c _ t hS.app) ?_
  simp -dsimp -implicitDefEqProofs (disch := omega) [go_sem, -List.getD_eq_getElem?_getD, ite_yes]
  refine ACall.of (iTotal_A l hlen _ _ _ (Sl.of1 rfl)) ?_
  simp -dsimp -implicitDefEqProofs (disch := omega) [go_sem, -List.getD_eq_getElem?_getD, ite_yes]
  refine ACall.of (toMRS_A l hlen c _ t hS.app) ?_
  simp -dsimp -implicitDefEqProofs (disch := omega) [go_sem, -List.getD_eq_getElem?_getD, ite_yes]
  refine ACall.of (eqMRS_A l l hlen hlen _ _ _ _ _ (Sl.nth 1 rfl rfl) (Sl.nth 2 rfl rfl)) ?_
  simp -dsimp -implicitDefEqProofs (disch := omega) [go_sem, -List.getD_eq_getElem?_getD, ite_yes]
  exact fin_flat rfl rfl
end Go.Proofs.Ytnocfipolefnaaa
