/- FnBillTexts: the law. -/
import Derived.Test.YthnnbgggfpempaaDoorDrawTxB
import Derived.Test.YthnnbgggfpempaaDoorTxLawB
namespace Go.Proofs.YthnnbgggfpempaaDoor
open Go.Am Go.Lib
set_option linter.unusedVariables false
set_option linter.unusedSimpArgs false
set_option maxRecDepth 100000
set_option maxHeartbeats 4000000
theorem rBig_A (n cc : Nat) (a : Option Addr) (H : Heap) : AFunC Tryd.prog 6 [.slice a n cc] H (.bool (decide (65536 < (n : Int)))) H := by
  refine AFunC.of_body Tryd.func6 (by kernel_rfl) rfl (by kernel_rfl) (by simp [Tryd.ntmps6]) ?_
  simp -dsimp -implicitDefEqProofs (disch := omega) [go_sem, -List.getD_eq_getElem?_getD, ite_yes]
  exact fin_flat0 rfl (by first | rfl | simp)
theorem lawBillTexts_A {H : Heap} {tc n : Nat} (h : Bytes H tc n) (cc : Nat) : AFunC Tryd.prog 4 [.slice (some ⟨tc, 0, none⟩) n cc] H (.bool true) H := by
  refine AFunC.of_awp Tryd.func4 (by kernel_rfl) rfl (by simp [Tryd.ntmps4]) ?_
  have ht := h.lt
  refine AWp.step 2 [(0, .slice (some ⟨tc, 0, none⟩) n cc)] H (by kernel_rfl) (by kernel_rfl) ?_ ?_
  · simp -dsimp -implicitDefEqProofs (disch := omega) [go_sem, -List.getD_eq_getElem?_getD, ite_yes]
    refine ACall.of (rBig_A _ _ _ _) ?_
    simp -dsimp -implicitDefEqProofs (disch := omega) [go_sem, -List.getD_eq_getElem?_getD, ite_yes]
    refine AIf.of (fun h' => ?_) (fun h' => ?_)
    · simp -dsimp -implicitDefEqProofs (disch := omega) [go_sem, -List.getD_eq_getElem?_getD, ite_yes]
      exact fin_flat0 rfl rfl
    · simp -dsimp -implicitDefEqProofs (disch := omega) [go_sem, -List.getD_eq_getElem?_getD, ite_yes]
      exact ⟨weakS_same (by simp -dsimp -implicitDefEqProofs (disch := omega) [go_sem, -List.getD_eq_getElem?_getD, ite_yes, ht])⟩
  simp only [AWp_drop, AWp_drop0]
  refine AWp.step 4 [(0, .slice (some ⟨tc, 0, none⟩) n cc)] H (by kernel_rfl) (by kernel_rfl) ?_ ?_
  · simp -dsimp -implicitDefEqProofs (disch := omega) [go_sem, -List.getD_eq_getElem?_getD, ite_yes]
    refine ACall.via (drawBillText_R h cc) ?_
    rintro _ _ ⟨⟨x, y, z, u⟩, rfl, rfl⟩
    cases hr : isBl (x, y, z, u)
    · simp -dsimp -implicitDefEqProofs (disch := omega) [go_sem, -List.getD_eq_getElem?_getD, ite_yes]
      refine ACall.of (iBillText_A (x, y, z, u) _) ?_
      rw [hr]
      simp -dsimp -implicitDefEqProofs (disch := omega) [go_sem, -List.getD_eq_getElem?_getD, ite_yes]
      refine ACall.of (sBillText_A (x, y, z, u) _) ?_
      rw [hr]
      simp -dsimp -implicitDefEqProofs (disch := omega) [go_sem, -List.getD_eq_getElem?_getD, ite_yes]
      refine ACall.of (iParBl_A [] (by simp) _) ?_
      simp -dsimp -implicitDefEqProofs (disch := omega) [go_sem, -List.getD_eq_getElem?_getD, ite_yes]
      exact ⟨weakS_drop (by simp -dsimp -implicitDefEqProofs (disch := omega) [go_sem, -List.getD_eq_getElem?_getD, ite_yes, ht])⟩
    · have hp := parBl_yes hr rfl
      have hlen := blText_len hr
      simp -dsimp -implicitDefEqProofs (disch := omega) [go_sem, -List.getD_eq_getElem?_getD, ite_yes]
      refine ACall.of (iBillText_A (x, y, z, u) _) ?_
      rw [hr]
      simp -dsimp -implicitDefEqProofs (disch := omega) [go_sem, -List.getD_eq_getElem?_getD, ite_yes]
      refine ACall.of (sBillText_A (x, y, z, u) _) ?_
      rw [hr]
      simp -dsimp -implicitDefEqProofs (disch := omega) [go_sem, -List.getD_eq_getElem?_getD, ite_yes]
      refine ACall.of (iParBl_A (blText (x, y, z, u)) (by omega) _) ?_
      rw [hp]
      simp -dsimp -implicitDefEqProofs (disch := omega) [go_sem, -List.getD_eq_getElem?_getD, ite_yes]
      exact ⟨weakS_drop (by simp -dsimp -implicitDefEqProofs (disch := omega) [go_sem, -List.getD_eq_getElem?_getD, ite_yes, ht])⟩
  simp only [AWp_drop, AWp_drop0]
  refine AWp.step 3 [(0, .slice (some ⟨tc, 0, none⟩) n cc)] H (by kernel_rfl) (by kernel_rfl) ?_ ?_
  · simp -dsimp -implicitDefEqProofs (disch := omega) [go_sem, -List.getD_eq_getElem?_getD, ite_yes]
    refine ACall.via (drawParseBill_R h cc) ?_
    rintro _ _ ⟨l, rfl, l1, rfl⟩
    simp -dsimp -implicitDefEqProofs (disch := omega) [go_sem, -List.getD_eq_getElem?_getD, ite_yes]
    refine ACall.of (iParBl_A l (by omega) _) ?_
    simp -dsimp -implicitDefEqProofs (disch := omega) [go_sem, -List.getD_eq_getElem?_getD, ite_yes]
    refine ACall.of (sParBl_A l (by omega) _) ?_
    simp -dsimp -implicitDefEqProofs (disch := omega) [go_sem, -List.getD_eq_getElem?_getD, ite_yes]
    exact ⟨weakS_drop (by simp -dsimp -implicitDefEqProofs (disch := omega) [go_sem, -List.getD_eq_getElem?_getD, ite_yes, ht])⟩
  simp only [AWp_drop, AWp_drop0]
  refine AWp.step 4 [(0, .slice (some ⟨tc, 0, none⟩) n cc)] H (by kernel_rfl) (by kernel_rfl) ?_ ?_
  · simp -dsimp -implicitDefEqProofs (disch := omega) [go_sem, -List.getD_eq_getElem?_getD, ite_yes]
    refine ACall.via (drawReminder_R h cc) ?_
    rintro _ _ ⟨l, day, rfl, l1, rfl⟩
    have l2 : l.length ≤ 1048577 := by omega
    simp -dsimp -implicitDefEqProofs (disch := omega) [go_sem, -List.getD_eq_getElem?_getD, ite_yes]
    refine ACall.of (iRem_A l day l2 _ _ _ (Sl.of rfl)) ?_
    simp -dsimp -implicitDefEqProofs (disch := omega) [go_sem, -List.getD_eq_getElem?_getD, ite_yes]
    refine ACall.of (sRem_A l day l2 _ _ _ (Sl.of rfl)) ?_
    cases hg : remOk l day
    · simp -dsimp -implicitDefEqProofs (disch := omega) [go_sem, -List.getD_eq_getElem?_getD, ite_yes]
      exact ⟨weakS_drop (by simp -dsimp -implicitDefEqProofs (disch := omega) [go_sem, -List.getD_eq_getElem?_getD, ite_yes, ht])⟩
    have hg' := hg
    simp only [remOk, inB, Bool.and_eq_true, decide_eq_true_eq] at hg'
    obtain ⟨g1, g2⟩ := hg'
    have gp := pay_good g1 (cents := 1000000000) (by omega)
    have hpay : payOk l 1000000000 = true := by simp [payOk, g1, inB]
    have pl := payL_length l 1000000000
    have p2 : (payL l 1000000000).length ≤ 1048577 := by omega
    have gr : remOk (payL l 1000000000) day = true := by simp [remOk, inB, gp, g2]
    have c1 : remN (payL l 1000000000) day ≤ remN l day := by
      rw [remN, remN, if_pos gr, if_pos hg, pl]
      exact lev_paid day g1 (by omega) _ (Nat.le_refl _)
    have c2 : openN (payL l 1000000000) = 0 → remN (payL l 1000000000) day = 0 := by
      rw [remN, if_pos gr, openN, if_pos gp]
      exact lev_none day gp _ (Nat.le_refl _)
    have c3 : remOk l (day + 1) = true → remN l day ≤ remN l (day + 1) := fun g3 => by
      rw [remN, remN, if_pos g3, if_pos hg]
      exact lev_mono l day _
    have A1 := fun c H t hS => iRem_A l (day + 1) l2 c H t hS
    have A2 := fun c H t hS => iRem_A (payL l 1000000000) day p2 c H t hS
    have A3 := fun c H t hS => iOpen_A (payL l 1000000000) p2 c H t hS
    rw [gr] at A2
    rw [gp] at A3
    generalize openN (payL l 1000000000) = o at *
    generalize remN (payL l 1000000000) day = calm at *
    generalize remN l (day + 1) = later at *
    generalize remN l day = L at *
    simp -dsimp -implicitDefEqProofs (disch := omega) [go_sem, -List.getD_eq_getElem?_getD, ite_yes]
    refine ACall.of (A1 _ _ _ (Sl.of rfl)) ?_
    have d1 : ¬ L < calm := by omega
    by_cases ho : o = 0
    · have hc := c2 ho
      subst ho
      subst hc
      cases hg3 : remOk l (day + 1)
      · simp -dsimp -implicitDefEqProofs (disch := omega) [go_sem, -List.getD_eq_getElem?_getD, ite_yes]
        refine ACall.of (iPay_good l 1000000000 l2 hpay _ _ _ (Sl.of rfl)) ?_
        simp -dsimp -implicitDefEqProofs (disch := omega) [go_sem, -List.getD_eq_getElem?_getD, ite_yes]
        refine ACall.of (A2 _ _ _ (Sl.nth 1 rfl rfl)) ?_
        simp -dsimp -implicitDefEqProofs (disch := omega) [go_sem, -List.getD_eq_getElem?_getD, ite_yes]
        refine ACall.of (A3 _ _ _ (Sl.nth 1 rfl rfl)) ?_
        simp -dsimp -implicitDefEqProofs (disch := omega) [go_sem, -List.getD_eq_getElem?_getD, ite_yes, d1]
        exact ⟨weakS_drop (by simp -dsimp -implicitDefEqProofs (disch := omega) [go_sem, -List.getD_eq_getElem?_getD, ite_yes, ht])⟩
      · have d2 : ¬ later < L := by have := c3 hg3; omega
        simp -dsimp -implicitDefEqProofs (disch := omega) [go_sem, -List.getD_eq_getElem?_getD, ite_yes, d2]
        refine ACall.of (iPay_good l 1000000000 l2 hpay _ _ _ (Sl.of rfl)) ?_
        simp -dsimp -implicitDefEqProofs (disch := omega) [go_sem, -List.getD_eq_getElem?_getD, ite_yes]
        refine ACall.of (A2 _ _ _ (Sl.nth 1 rfl rfl)) ?_
        simp -dsimp -implicitDefEqProofs (disch := omega) [go_sem, -List.getD_eq_getElem?_getD, ite_yes]
        refine ACall.of (A3 _ _ _ (Sl.nth 1 rfl rfl)) ?_
        simp -dsimp -implicitDefEqProofs (disch := omega) [go_sem, -List.getD_eq_getElem?_getD, ite_yes, d1]
        exact ⟨weakS_drop (by simp -dsimp -implicitDefEqProofs (disch := omega) [go_sem, -List.getD_eq_getElem?_getD, ite_yes, ht])⟩
    · cases hg3 : remOk l (day + 1)
      · simp -dsimp -implicitDefEqProofs (disch := omega) [go_sem, -List.getD_eq_getElem?_getD, ite_yes]
        refine ACall.of (iPay_good l 1000000000 l2 hpay _ _ _ (Sl.of rfl)) ?_
        simp -dsimp -implicitDefEqProofs (disch := omega) [go_sem, -List.getD_eq_getElem?_getD, ite_yes]
        refine ACall.of (A2 _ _ _ (Sl.nth 1 rfl rfl)) ?_
        simp -dsimp -implicitDefEqProofs (disch := omega) [go_sem, -List.getD_eq_getElem?_getD, ite_yes]
        refine ACall.of (A3 _ _ _ (Sl.nth 1 rfl rfl)) ?_
        simp -dsimp -implicitDefEqProofs (disch := omega) [go_sem, -List.getD_eq_getElem?_getD, ite_yes, d1, ho]
        exact ⟨weakS_drop (by simp -dsimp -implicitDefEqProofs (disch := omega) [go_sem, -List.getD_eq_getElem?_getD, ite_yes, ht])⟩
      · have d2 : ¬ later < L := by have := c3 hg3; omega
        simp -dsimp -implicitDefEqProofs (disch := omega) [go_sem, -List.getD_eq_getElem?_getD, ite_yes, d2]
        refine ACall.of (iPay_good l 1000000000 l2 hpay _ _ _ (Sl.of rfl)) ?_
        simp -dsimp -implicitDefEqProofs (disch := omega) [go_sem, -List.getD_eq_getElem?_getD, ite_yes]
        refine ACall.of (A2 _ _ _ (Sl.nth 1 rfl rfl)) ?_
        simp -dsimp -implicitDefEqProofs (disch := omega) [go_sem, -List.getD_eq_getElem?_getD, ite_yes]
        refine ACall.of (A3 _ _ _ (Sl.nth 1 rfl rfl)) ?_
        simp -dsimp -implicitDefEqProofs (disch := omega) [go_sem, -List.getD_eq_getElem?_getD, ite_yes, d1, ho]
        exact ⟨weakS_drop (by simp -dsimp -implicitDefEqProofs (disch := omega) [go_sem, -List.getD_eq_getElem?_getD, ite_yes, ht])⟩
  simp only [AWp_drop, AWp_drop0]
  refine AWp.last (by kernel_rfl) ?_
  simp -dsimp -implicitDefEqProofs (disch := omega) [go_sem, -List.getD_eq_getElem?_getD, ite_yes]
  refine ACall.via (drawOpenCents_R h cc) ?_
  rintro _ _ ⟨l, rfl, l1, rfl⟩
  have l2 : l.length ≤ 1048577 := by omega
  simp -dsimp -implicitDefEqProofs (disch := omega) [go_sem, -List.getD_eq_getElem?_getD, ite_yes]
  refine ACall.of (iOpen_A l l2 _ _ _ (Sl.of rfl)) ?_
  simp -dsimp -implicitDefEqProofs (disch := omega) [go_sem, -List.getD_eq_getElem?_getD, ite_yes]
  refine ACall.of (sOpen_A l l2 _ _ _ (Sl.of rfl)) ?_
  simp -dsimp -implicitDefEqProofs (disch := omega) [go_sem, -List.getD_eq_getElem?_getD, ite_yes]
  refine ACall.of (iValidBills_A l l2 _ _ _ (Sl.of rfl)) ?_
  simp -dsimp -implicitDefEqProofs (disch := omega) [go_sem, -List.getD_eq_getElem?_getD, ite_yes]
  exact fin_flat rfl rfl
end Go.Proofs.YthnnbgggfpempaaDoor
