/- RefundBill: the law. -/
import Derived.Test.YtappbdfieccfeaaRefund
namespace Go.Proofs.Ytappbdfieccfeaa
open Go.Am
set_option linter.unusedVariables false
set_option linter.unusedSimpArgs false
set_option maxRecDepth 100000
set_option maxHeartbeats 4000000

theorem ref_at {l : List Bl} {id r : Int} (hr : Found (0, 0, 0, 0) (isIdB id) l r) (hg : refOk l r = true) : ∃ i : Nat, r = (i : Int) ∧ i < l.length ∧ goodB l = true := by
  simp only [refOk, Bool.and_eq_true, decide_eq_true_eq] at hg
  cases hr with
  | yes i h1 h2 h3 => exact ⟨i, rfl, h1, hg.1⟩
  | no h => exact absurd hg.2 (by omega)
theorem cutB_small {l : List Bl} {i : Nat} (h : i < l.length) (hl : l.length ≤ 1048577) : (cutB l i).length ≤ 1048577 := by rw [cutB_length h]; omega
theorem lawRefundBill_A (l : List Bl) (hl0 : l.length ≤ 9223372036854775807) (c0 : Nat) (id : Int) (r : Int) (hr : Found (0, 0, 0, 0) (isIdB id) l r) (H : Heap) (t0 : Nat) (hS0 : Sl blE H t0 l) :
    AFunC Try.prog 3 [.slice (some ⟨t0, 0, none⟩) l.length c0, .int .i64 id] H (.bool true) H := by
  refine AFunC.of_body Try.func3 (by kernel_rfl) rfl (by kernel_rfl) (by simp [Try.ntmps3]) ?_
  have ht0 := hS0.lt
  simp -dsimp -implicitDefEqProofs (disch := omega) [go_sem, -List.getD_eq_getElem?_getD, ite_yes, ht0]
  refine ACall.of (szBl_A l.length c0 (by omega) _ (by omega) (by omega) t0 _) ?_
  simp -dsimp -implicitDefEqProofs (disch := omega) [go_sem, -List.getD_eq_getElem?_getD, ite_yes, ht0]
  refine AIf.of (fun h => ?_) (fun h => ?_)
  · simp -dsimp -implicitDefEqProofs (disch := omega) [go_sem, -List.getD_eq_getElem?_getD, ite_yes]
    first | exact fin_flat0 rfl rfl | exact fin_flat rfl rfl
  have hlen0 : l.length ≤ 1048577 := by
    have := szBl_len (by simpa using h)
    omega
  simp -dsimp -implicitDefEqProofs (disch := omega) [go_sem, -List.getD_eq_getElem?_getD, ite_yes, ht0]
  rcases Bool.eq_false_or_eq_true (refOk l r) with hg | hg
  · obtain ⟨i, rfl, hi, hgb⟩ := ref_at hr hg
    have hu := cutB_small hi hlen0
    refine ACall.of (toBlS_A l hlen0 c0 _ t0 hS0) ?_
    simp -dsimp -implicitDefEqProofs (disch := omega) [go_sem, -List.getD_eq_getElem?_getD, ite_yes, ht0]
    refine ACall.of (sRef_good l id i hr hi hlen0 hgb _ _ _ (Sl.of rfl) (by first | (rw [blkSz_len]; rfl) | (rw [blkSz_len_add]; rfl))) ?_
    simp -dsimp -implicitDefEqProofs (disch := omega) [go_sem, -List.getD_eq_getElem?_getD, ite_yes, ht0]
    refine ACall.of (toBlS_A l hlen0 c0 _ t0 hS0.app) ?_
    simp -dsimp -implicitDefEqProofs (disch := omega) [go_sem, -List.getD_eq_getElem?_getD, ite_yes, ht0]
    refine ACall.of (iRef_good l id i hr hi hlen0 hgb _ _ _ (Sl.nth 2 rfl rfl)) ?_
    simp -dsimp -implicitDefEqProofs (disch := omega) [go_sem, -List.getD_eq_getElem?_getD, ite_yes, ht0]
    refine ACall.of (eqBlS_A (cutB l i) (cutB l i) hu hu _ _ _ _ _ (Sl.nth 3 rfl rfl) (Sl.nth 1 rfl rfl)) ?_
    simp -dsimp -implicitDefEqProofs (disch := omega) [go_sem, -List.getD_eq_getElem?_getD, ite_yes, ht0]
    refine ACall.of (toBlS_A l hlen0 c0 _ t0 hS0.app) ?_
    simp -dsimp -implicitDefEqProofs (disch := omega) [go_sem, -List.getD_eq_getElem?_getD, ite_yes, ht0]
    refine ACall.of (eqBlS_A l l hlen0 hlen0 _ _ _ _ _ (Sl.nth 2 rfl rfl) (Sl.nth 4 rfl rfl)) ?_
    simp -dsimp -implicitDefEqProofs (disch := omega) [go_sem, -List.getD_eq_getElem?_getD, ite_yes, ht0]
    refine ACall.of (markBlS_A l hlen0 _ _ _ (by omega) (by omega) _ _ ((Heap.get_len_add _ _ 2).trans rfl)) ?_
    simp -dsimp -implicitDefEqProofs (disch := omega) [go_sem, -List.getD_eq_getElem?_getD, ite_yes, ht0]
    refine AIf.of (fun h => absurd (of_decide_eq_true h) (by omega)) (fun _ => ?_)
    simp -dsimp -implicitDefEqProofs (disch := omega) [go_sem, -List.getD_eq_getElem?_getD, ite_yes, ht0]
    refine ACall.of (eqBlS_A (cutB l i) (cutB l i) hu hu _ _ _ _ _ (Sl.nth 3 rfl rfl) (Sl.nth 1 rfl rfl)) ?_
    simp -dsimp -implicitDefEqProofs (disch := omega) [go_sem, -List.getD_eq_getElem?_getD, ite_yes, ht0]
    refine ACall.of (markBlS_A (cutB l i) hu _ _ _ (by omega) (by omega) _ _ ((Heap.get_len_add _ _ 3).trans rfl)) ?_
    simp -dsimp -implicitDefEqProofs (disch := omega) [go_sem, -List.getD_eq_getElem?_getD, ite_yes, ht0]
    refine ACall.of (heldBlS_A _ hu _ _ (by omega) (by omega) _ _ (Sl.nth 3 rfl rfl)) ?_
    simp -dsimp -implicitDefEqProofs (disch := omega) [go_sem, -List.getD_eq_getElem?_getD, ite_yes, ht0]
    refine AIf.of (fun h => absurd (of_decide_eq_true h) (by omega)) (fun _ => ?_)
    simp -dsimp -implicitDefEqProofs (disch := omega) [go_sem, -List.getD_eq_getElem?_getD, ite_yes, ht0]
    refine ACall.of (toBlS_A l hlen0 c0 _ t0 hS0.app) ?_
    simp -dsimp -implicitDefEqProofs (disch := omega) [go_sem, -List.getD_eq_getElem?_getD, ite_yes, ht0]
    refine ACall.of (iRef_good l id i hr hi hlen0 hgb _ _ _ (Sl.nth 5 rfl rfl)) ?_
    simp -dsimp -implicitDefEqProofs (disch := omega) [go_sem, -List.getD_eq_getElem?_getD, ite_yes, ht0]
    refine ACall.of (eqBlS_A (cutB l i) (cutB l i) hu hu _ _ _ _ _ (Sl.nth 6 rfl rfl) (Sl.nth 1 rfl rfl)) ?_
    simp -dsimp -implicitDefEqProofs (disch := omega) [go_sem, -List.getD_eq_getElem?_getD, ite_yes, ht0]
    refine ACall.of (heldBlS_A _ hu _ _ (by omega) (by omega) _ _ (Sl.nth 3 rfl rfl)) ?_
    simp -dsimp -implicitDefEqProofs (disch := omega) [go_sem, -List.getD_eq_getElem?_getD, ite_yes, ht0]
    refine AIf.of (fun h => absurd (of_decide_eq_true h) (by omega)) (fun _ => ?_)
    simp -dsimp -implicitDefEqProofs (disch := omega) [go_sem, -List.getD_eq_getElem?_getD, ite_yes, ht0]
    exact fin_flat rfl rfl
  · refine ACall.of (toBlS_A l hlen0 c0 _ t0 hS0) ?_
    simp -dsimp -implicitDefEqProofs (disch := omega) [go_sem, -List.getD_eq_getElem?_getD, ite_yes, ht0]
    refine ACall.of (sRef_bad l id r hr hlen0 hg _ _ _ (Sl.of rfl)) ?_
    simp -dsimp -implicitDefEqProofs (disch := omega) [go_sem, -List.getD_eq_getElem?_getD, ite_yes, ht0]
    refine ACall.of (toBlS_A l hlen0 c0 _ t0 hS0.app) ?_
    simp -dsimp -implicitDefEqProofs (disch := omega) [go_sem, -List.getD_eq_getElem?_getD, ite_yes, ht0]
    refine ACall.of (iRef_bad l id r hr hlen0 hg _ _ _ (Sl.nth 2 rfl rfl)) ?_
    simp -dsimp -implicitDefEqProofs (disch := omega) [go_sem, -List.getD_eq_getElem?_getD, ite_yes, ht0]
    refine ACall.of (eqBlS_nil _ _ _) ?_
    simp -dsimp -implicitDefEqProofs (disch := omega) [go_sem, -List.getD_eq_getElem?_getD, ite_yes, ht0]
    refine ACall.of (toBlS_A l hlen0 c0 _ t0 hS0.app) ?_
    simp -dsimp -implicitDefEqProofs (disch := omega) [go_sem, -List.getD_eq_getElem?_getD, ite_yes, ht0]
    refine ACall.of (eqBlS_A l l hlen0 hlen0 _ _ _ _ _ (Sl.nth 2 rfl rfl) (Sl.nth 3 rfl rfl)) ?_
    simp -dsimp -implicitDefEqProofs (disch := omega) [go_sem, -List.getD_eq_getElem?_getD, ite_yes, ht0]
    refine ACall.of (markBlS_A l hlen0 _ _ _ (by omega) (by omega) _ _ ((Heap.get_len_add _ _ 2).trans rfl)) ?_
    simp -dsimp -implicitDefEqProofs (disch := omega) [go_sem, -List.getD_eq_getElem?_getD, ite_yes, ht0]
    refine AIf.of (fun h => absurd (of_decide_eq_true h) (by omega)) (fun _ => ?_)
    simp -dsimp -implicitDefEqProofs (disch := omega) [go_sem, -List.getD_eq_getElem?_getD, ite_yes, ht0]
    refine ACall.of (eqBlS_nil _ _ _) ?_
    simp -dsimp -implicitDefEqProofs (disch := omega) [go_sem, -List.getD_eq_getElem?_getD, ite_yes, ht0]
    refine ACall.of (markBlS_nil _ _) ?_
    simp -dsimp -implicitDefEqProofs (disch := omega) [go_sem, -List.getD_eq_getElem?_getD, ite_yes, ht0]
    refine ACall.of (heldBlS_nil _ _) ?_
    simp -dsimp -implicitDefEqProofs (disch := omega) [go_sem, -List.getD_eq_getElem?_getD, ite_yes, ht0]
    refine ACall.of (toBlS_A l hlen0 c0 _ t0 hS0.app) ?_
    simp -dsimp -implicitDefEqProofs (disch := omega) [go_sem, -List.getD_eq_getElem?_getD, ite_yes, ht0]
    refine ACall.of (iRef_bad l id r hr hlen0 hg _ _ _ (Sl.nth 4 rfl rfl)) ?_
    simp -dsimp -implicitDefEqProofs (disch := omega) [go_sem, -List.getD_eq_getElem?_getD, ite_yes, ht0]
    refine ACall.of (eqBlS_nil _ _ _) ?_
    simp -dsimp -implicitDefEqProofs (disch := omega) [go_sem, -List.getD_eq_getElem?_getD, ite_yes, ht0]
    refine ACall.of (heldBlS_nil _ _) ?_
    simp -dsimp -implicitDefEqProofs (disch := omega) [go_sem, -List.getD_eq_getElem?_getD, ite_yes, ht0]
    exact fin_flat rfl rfl
theorem lawRefund_A (l : List Bl) (hl0 : l.length ≤ 9223372036854775807) (c0 : Nat) (id : Int) (H : Heap) (t0 : Nat) (hS0 : Sl blE H t0 l) :
    AFunC Try.prog 3 [.slice (some ⟨t0, 0, none⟩) l.length c0, .int .i64 id] H (.bool true) H := by
  obtain ⟨r, hr⟩ := found_ex (0, 0, 0, 0) (isIdB id) l l.length 0 (by omega) (fun i hi => by omega) (by omega)
  exact lawRefundBill_A l hl0 c0 id r hr H t0 hS0
end Go.Proofs.Ytappbdfieccfeaa
