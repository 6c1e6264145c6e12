/- UsesOf: both sides, and the law. -/
import Derived.Test.YthnnbgggfpempaaDoorUses
namespace Go.Proofs.YthnnbgggfpempaaDoor
open Go.Am
set_option linter.unusedVariables false
set_option linter.unusedSimpArgs false
set_option maxRecDepth 100000
set_option maxHeartbeats 1000000

theorem iUsesOf_bad (l : List Rd) (hl : l.length ≤ 1048577) (hg : good l = false) (c : Nat) (H : Heap) (t : Nat) (hS : Sl rdE H t l) :
    AFunC Tryd.prog 16 [.slice (some ⟨t, 0, none⟩) l.length c] H (.tuple #[.slice none 0 0, .bool false]) H := by
  refine AFunC.of_body Tryd.func16 (by kernel_rfl) rfl (by kernel_rfl) (by simp [Tryd.ntmps16]) ?_
  have ht := hS.lt
  simp -dsimp -implicitDefEqProofs (disch := omega) [go_sem, -List.getD_eq_getElem?_getD, ite_yes]
  refine ACall.of (iValidReadings_A l hl c H t hS) ?_
  simp -dsimp -implicitDefEqProofs (disch := omega) [go_sem, -List.getD_eq_getElem?_getD, ite_yes, hg]
  exact fin_flat0 rfl rfl
theorem iUsesOf_good (l : List Rd) (hl : l.length ≤ 1048577) (hg : good l = true) (c : Nat) (H : Heap) (t : Nat) (hS : Sl rdE H t l) :
    AFunC Tryd.prog 16 [.slice (some ⟨t, 0, none⟩) l.length c] H (.tuple #[.slice (some ⟨H.length, 0, none⟩) (uses l).length (uses l).length, .bool true]) (H ++ [some ⟨(uses l).flatMap nmE, true, 3, 1⟩]) := by
  refine AFunC.of_body Tryd.func16 (by kernel_rfl) rfl (by kernel_rfl) (by simp [Tryd.ntmps16]) ?_
  have ht := hS.lt
  simp -dsimp -implicitDefEqProofs (disch := omega) [go_sem, -List.getD_eq_getElem?_getD, ite_yes]
  refine ACall.of (iValidReadings_A l hl c H t hS) ?_
  simp -dsimp -implicitDefEqProofs (disch := omega) [go_sem, -List.getD_eq_getElem?_getD, ite_yes, hg]
  refine ACall.of (usesOf_A l hg c H t hS) ?_
  simp -dsimp -implicitDefEqProofs (disch := omega) [go_sem, -List.getD_eq_getElem?_getD, ite_yes]
  refine fin_list [some 0] rfl ?_ (by simp -dsimp -implicitDefEqProofs (disch := omega) [go_sem, -List.getD_eq_getElem?_getD, ite_yes, ht])
  simp -dsimp -implicitDefEqProofs (disch := omega) [go_sem, -List.getD_eq_getElem?_getD, ite_yes]
  exact .inl ⟨rfl, nmE_flat _⟩
theorem uses_len {l : List Rd} (h : l.length ≤ 1048577) : (uses l).length ≤ 1048577 := by unfold uses; rw [usesTo_length]; omega
end Go.Proofs.YthnnbgggfpempaaDoor
