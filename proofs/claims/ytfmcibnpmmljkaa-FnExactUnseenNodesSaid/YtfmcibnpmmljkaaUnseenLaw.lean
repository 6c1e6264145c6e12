/- UnseenNodes: the law. -/
import Derived.Test.YtfmcibnpmmljkaaUnSeen2
namespace Go.Proofs.Ytfmcibnpmmljkaa
open Go.Am
set_option linter.unusedVariables false
set_option linter.unusedSimpArgs false
set_option maxRecDepth 100000
set_option maxHeartbeats 4000000

theorem unN_small {l : List Al} (h : l.length ≤ 1048577) : (unN l).length ≤ 1048577 := Nat.le_trans (unN_length l) h
theorem lawUnseenNodes_A (l : List Al) (hl0 : l.length ≤ 9223372036854775807) (c0 : Nat) (H : Heap) (t0 : Nat) (hS0 : Sl alE H t0 l) :
    AFunC Try.prog 3 [.slice (some ⟨t0, 0, none⟩) l.length c0] H (.bool true) H := by
  refine AFunC.of_body Try.func3 (by kernel_rfl) rfl (by kernel_rfl) (by simp [Try.ntmps3]) ?_
  have ht0 := hS0.lt
  simp -dsimp -implicitDefEqProofs (disch := omega) [go_sem, -List.getD_eq_getElem?_getD, ite_yes, ht0]
  refine ACall.of (szAl_A l.length c0 (by omega) _ (by omega) (by omega) t0 _) ?_
  simp -dsimp -implicitDefEqProofs (disch := omega) [go_sem, -List.getD_eq_getElem?_getD, ite_yes, ht0]
  refine AIf.of (fun h => ?_) (fun h => ?_)
  · simp -dsimp -implicitDefEqProofs (disch := omega) [go_sem, -List.getD_eq_getElem?_getD, ite_yes]
    first | exact fin_flat0 rfl rfl | exact fin_flat rfl rfl
  have hlen0 : l.length ≤ 1048577 := by
    have := szAl_len (by simpa using h)
    omega
  simp -dsimp -implicitDefEqProofs (disch := omega) [go_sem, -List.getD_eq_getElem?_getD, ite_yes, ht0]
  rcases Bool.eq_false_or_eq_true (goodA l) with hg | hg
  · have hu := unN_small hlen0
    refine ACall.of (toAlS_A l hlen0 c0 _ t0 hS0) ?_
    simp -dsimp -implicitDefEqProofs (disch := omega) [go_sem, -List.getD_eq_getElem?_getD, ite_yes, ht0]
    refine ACall.of (sUnseen_good l hlen0 _ _ _ (Sl.of rfl) hg) ?_
    simp -dsimp -implicitDefEqProofs (disch := omega) [go_sem, -List.getD_eq_getElem?_getD, ite_yes, ht0]
    refine ACall.of (toAlS_A l hlen0 c0 _ t0 hS0.app) ?_
    simp -dsimp -implicitDefEqProofs (disch := omega) [go_sem, -List.getD_eq_getElem?_getD, ite_yes, ht0]
    refine ACall.of (iUnseen_good l hlen0 _ _ _ (Sl.nth 2 rfl rfl) hg) ?_
    simp -dsimp -implicitDefEqProofs (disch := omega) [go_sem, -List.getD_eq_getElem?_getD, ite_yes, ht0]
    refine ACall.of (eqNmS_A (unN l) (unN l) hu hu _ _ _ _ _ (Sl.nth 3 rfl rfl) (Sl.nth 1 rfl rfl)) ?_
    simp -dsimp -implicitDefEqProofs (disch := omega) [go_sem, -List.getD_eq_getElem?_getD, ite_yes, ht0]
    refine ACall.of (toAlS_A l hlen0 c0 _ t0 hS0.app) ?_
    simp -dsimp -implicitDefEqProofs (disch := omega) [go_sem, -List.getD_eq_getElem?_getD, ite_yes, ht0]
    refine ACall.of (eqAlS_A l l hlen0 hlen0 _ _ _ _ _ (Sl.nth 2 rfl rfl) (Sl.nth 4 rfl rfl)) ?_
    simp -dsimp -implicitDefEqProofs (disch := omega) [go_sem, -List.getD_eq_getElem?_getD, ite_yes, ht0]
    refine ACall.of (markAlS_A l hlen0 _ _ _ (by omega) (by omega) _ _ ((Heap.get_len_add _ _ 2).trans rfl)) ?_
    simp -dsimp -implicitDefEqProofs (disch := omega) [go_sem, -List.getD_eq_getElem?_getD, ite_yes, ht0]
    refine AIf.of (fun h => absurd (of_decide_eq_true h) (by omega)) (fun _ => ?_)
    simp -dsimp -implicitDefEqProofs (disch := omega) [go_sem, -List.getD_eq_getElem?_getD, ite_yes, ht0]
    refine ACall.of (eqNmS_A (unN l) (unN l) hu hu _ _ _ _ _ (Sl.nth 3 rfl rfl) (Sl.nth 1 rfl rfl)) ?_
    simp -dsimp -implicitDefEqProofs (disch := omega) [go_sem, -List.getD_eq_getElem?_getD, ite_yes, ht0]
    refine ACall.of (markNmS_A (unN l) hu _ _ _ (by omega) (by omega) _ _ ((Heap.get_len_add _ _ 3).trans rfl)) ?_
    simp -dsimp -implicitDefEqProofs (disch := omega) [go_sem, -List.getD_eq_getElem?_getD, ite_yes, ht0]
    refine ACall.of (heldNmS_A _ hu _ _ (by omega) (by omega) _ _ (Sl.nth 3 rfl rfl)) ?_
    simp -dsimp -implicitDefEqProofs (disch := omega) [go_sem, -List.getD_eq_getElem?_getD, ite_yes, ht0]
    refine AIf.of (fun h => absurd (of_decide_eq_true h) (by omega)) (fun _ => ?_)
    simp -dsimp -implicitDefEqProofs (disch := omega) [go_sem, -List.getD_eq_getElem?_getD, ite_yes, ht0]
    refine ACall.of (toAlS_A l hlen0 c0 _ t0 hS0.app) ?_
    simp -dsimp -implicitDefEqProofs (disch := omega) [go_sem, -List.getD_eq_getElem?_getD, ite_yes, ht0]
    refine ACall.of (iUnseen_good l hlen0 _ _ _ (Sl.nth 5 rfl rfl) hg) ?_
    simp -dsimp -implicitDefEqProofs (disch := omega) [go_sem, -List.getD_eq_getElem?_getD, ite_yes, ht0]
    refine ACall.of (eqNmS_A (unN l) (unN l) hu hu _ _ _ _ _ (Sl.nth 6 rfl rfl) (Sl.nth 1 rfl rfl)) ?_
    simp -dsimp -implicitDefEqProofs (disch := omega) [go_sem, -List.getD_eq_getElem?_getD, ite_yes, ht0]
    refine ACall.of (heldNmS_A _ hu _ _ (by omega) (by omega) _ _ (Sl.nth 3 rfl rfl)) ?_
    simp -dsimp -implicitDefEqProofs (disch := omega) [go_sem, -List.getD_eq_getElem?_getD, ite_yes, ht0]
    refine AIf.of (fun h => absurd (of_decide_eq_true h) (by omega)) (fun _ => ?_)
    simp -dsimp -implicitDefEqProofs (disch := omega) [go_sem, -List.getD_eq_getElem?_getD, ite_yes, ht0]
    exact fin_flat rfl rfl
  · refine ACall.of (toAlS_A l hlen0 c0 _ t0 hS0) ?_
    simp -dsimp -implicitDefEqProofs (disch := omega) [go_sem, -List.getD_eq_getElem?_getD, ite_yes, ht0]
    refine ACall.of (sUnseen_bad l hlen0 _ _ _ (Sl.of rfl) hg) ?_
    simp -dsimp -implicitDefEqProofs (disch := omega) [go_sem, -List.getD_eq_getElem?_getD, ite_yes, ht0]
    refine ACall.of (toAlS_A l hlen0 c0 _ t0 hS0.app) ?_
    simp -dsimp -implicitDefEqProofs (disch := omega) [go_sem, -List.getD_eq_getElem?_getD, ite_yes, ht0]
    refine ACall.of (iUnseen_bad l hlen0 _ _ _ (Sl.nth 2 rfl rfl) hg) ?_
    simp -dsimp -implicitDefEqProofs (disch := omega) [go_sem, -List.getD_eq_getElem?_getD, ite_yes, ht0]
    refine ACall.of (eqNmS_nil _ _ _) ?_
    simp -dsimp -implicitDefEqProofs (disch := omega) [go_sem, -List.getD_eq_getElem?_getD, ite_yes, ht0]
    refine ACall.of (toAlS_A l hlen0 c0 _ t0 hS0.app) ?_
    simp -dsimp -implicitDefEqProofs (disch := omega) [go_sem, -List.getD_eq_getElem?_getD, ite_yes, ht0]
    refine ACall.of (eqAlS_A l l hlen0 hlen0 _ _ _ _ _ (Sl.nth 2 rfl rfl) (Sl.nth 3 rfl rfl)) ?_
    simp -dsimp -implicitDefEqProofs (disch := omega) [go_sem, -List.getD_eq_getElem?_getD, ite_yes, ht0]
    refine ACall.of (markAlS_A l hlen0 _ _ _ (by omega) (by omega) _ _ ((Heap.get_len_add _ _ 2).trans rfl)) ?_
    simp -dsimp -implicitDefEqProofs (disch := omega) [go_sem, -List.getD_eq_getElem?_getD, ite_yes, ht0]
    refine AIf.of (fun h => absurd (of_decide_eq_true h) (by omega)) (fun _ => ?_)
    simp -dsimp -implicitDefEqProofs (disch := omega) [go_sem, -List.getD_eq_getElem?_getD, ite_yes, ht0]
    refine ACall.of (eqNmS_nil _ _ _) ?_
    simp -dsimp -implicitDefEqProofs (disch := omega) [go_sem, -List.getD_eq_getElem?_getD, ite_yes, ht0]
    refine ACall.of (markNmS_nil _ _) ?_
    simp -dsimp -implicitDefEqProofs (disch := omega) [go_sem, -List.getD_eq_getElem?_getD, ite_yes, ht0]
    refine ACall.of (heldNmS_nil _ _) ?_
    simp -dsimp -implicitDefEqProofs (disch := omega) [go_sem, -List.getD_eq_getElem?_getD, ite_yes, ht0]
    refine ACall.of (toAlS_A l hlen0 c0 _ t0 hS0.app) ?_
    simp -dsimp -implicitDefEqProofs (disch := omega) [go_sem, -List.getD_eq_getElem?_getD, ite_yes, ht0]
    refine ACall.of (iUnseen_bad l hlen0 _ _ _ (Sl.nth 4 rfl rfl) hg) ?_
    simp -dsimp -implicitDefEqProofs (disch := omega) [go_sem, -List.getD_eq_getElem?_getD, ite_yes, ht0]
    refine ACall.of (eqNmS_nil _ _ _) ?_
    simp -dsimp -implicitDefEqProofs (disch := omega) [go_sem, -List.getD_eq_getElem?_getD, ite_yes, ht0]
    refine ACall.of (heldNmS_nil _ _) ?_
    simp -dsimp -implicitDefEqProofs (disch := omega) [go_sem, -List.getD_eq_getElem?_getD, ite_yes, ht0]
    exact fin_flat rfl rfl
end Go.Proofs.Ytfmcibnpmmljkaa
