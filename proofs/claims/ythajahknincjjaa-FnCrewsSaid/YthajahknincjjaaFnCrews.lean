/- FnCrews: the law. -/
import Derived.Test.YthajahknincjjaaDrawCrews
import Derived.Test.YthajahknincjjaaLoadsOf
import Derived.Test.YthajahknincjjaaBestEnd2
import Derived.Test.YthajahknincjjaaGreedy3
import Derived.Test.YthajahknincjjaaCrewsLaw
import Derived.Test.YthajahknincjjaaLawNm
namespace Go.Proofs.Ythajahknincjjaa
open Go.Am
set_option linter.unusedVariables false
set_option linter.unusedSimpArgs false
set_option maxRecDepth 100000
set_option maxHeartbeats 4000000

theorem asgOk_of {l : List Tk} {crews : Int} {a : List Int} (h : AsgAt l crews a) : asgOk l crews a = true := by
  have c := h.f_crews
  simp only [asgOk, askOk, asgAll, inB, Bool.and_eq_true, decide_eq_true_eq]
  exact ⟨⟨h.f_good, c⟩, h.f_len, h.f_in⟩
theorem rMost_lo {l : List Tk} {crews : Int} {a : List Int} (h : AsgAt l crews a) (c : Nat) (H : Heap) (t : Nat) (hS : Sl nmE H t (loadTo l crews a a.length)) : AFunC Try.prog 13 [.slice (some ⟨t, 0, none⟩) (loadTo l crews a a.length).length c] H (.int .i64 (endN l crews a)) H := by
  have := rMost_A (loadTo l crews a a.length) (loads_le (asgOk_of h) _) c H t hS
  have e : mxTo (loadTo l crews a a.length) (loadTo l crews a a.length).length = endN l crews a := by unfold endN; rw [loadTo_length]
  rwa [e] at this
theorem rSum_lo {l : List Tk} {crews : Int} {a : List Int} (h : AsgAt l crews a) (c : Nat) (H : Heap) (t : Nat) (hS : Sl nmE H t (loadTo l crews a a.length)) : AFunC Try.prog 14 [.slice (some ⟨t, 0, none⟩) (loadTo l crews a a.length).length c] H (.int .i64 (minTo l l.length)) H := by
  have := rSum_A (loadTo l crews a a.length) (load_small h) (loads_le (asgOk_of h) _) c H t hS
  have e : (loadTo l crews a a.length).sum = minTo l l.length := by rw [load_sum h a.length (by rw [h.f_len]; omega), h.f_len]
  rwa [e] at this
theorem rMost_fin {l : List Tk} {crews : Int} {a : List Int} (h : AsgAt l crews a) (c : Nat) (H : Heap) (t : Nat) (hS : Sl nmE H t (finTo l crews a a.length)) : AFunC Try.prog 13 [.slice (some ⟨t, 0, none⟩) (finTo l crews a a.length).length c] H (.int .i64 (endN l crews a)) H := by
  have l7 := (goodT_at h.f_good).1
  have hl := h.f_len
  have := rMost_A (finTo l crews a a.length) (by rw [finTo_length]; omega) c H t hS
  have e : mxTo (finTo l crews a a.length) (finTo l crews a a.length).length = endN l crews a := by
    rw [finTo_length, fin_max h a.length (by omega)]; rfl
  rwa [e] at this
theorem iMove_no {l : List Tk} {crews : Int} {a : List Int} (h : (mvN l crews a).1 < 0) : mvV (mvN l crews a) = .tuple #[.int .i64 0, .int .i64 0, .bool false] := if_pos h
def CrI (H : Heap) (fr1 : Fr) (H1 : Heap) : Prop := ∃ (l : List Tk) (crews : Int) (xs a : List Int) (off k : Nat), fr1 = [(3, .slice (some ⟨H.length, 0, none⟩) l.length l.length), (4, .int .i64 crews)] ++ [(5, .slice (some ⟨H.length + 1, off, none⟩) a.length k)] ∧ H1 = H ++ [some ⟨l.flatMap tkE, true, 56, 3⟩, some ⟨xs.flatMap nmE, true, 3, 1⟩] ∧ l.length ≤ 20 ∧ a.length ≤ 30 ∧ List.drop off (xs.flatMap nmE) = a.flatMap nmE
theorem lawCrews_A {H : Heap} {tc n : Nat} (h : Bytes H tc n) (cc : Nat) : AFunC Try.prog 3 [.slice (some ⟨tc, 0, none⟩) n cc] H (.bool true) H := by
  refine AFunC.of_awp Try.func3 (by kernel_rfl) rfl (by simp [Try.ntmps3]) ?_
  have ht := h.lt
  refine AWp.step 2 [(0, .slice (some ⟨tc, 0, none⟩) n cc)] H (by kernel_rfl) (by kernel_rfl) ?_ ?_
  · simp -dsimp -implicitDefEqProofs (disch := omega) [go_sem, -List.getD_eq_getElem?_getD, ite_yes]
    refine ACall.of (rBig_A _ _ _ _) ?_
    simp -dsimp -implicitDefEqProofs (disch := omega) [go_sem, -List.getD_eq_getElem?_getD, ite_yes]
    refine AIf.of (fun h' => ?_) (fun h' => ?_)
    · simp -dsimp -implicitDefEqProofs (disch := omega) [go_sem, -List.getD_eq_getElem?_getD, ite_yes]
      exact fin_flat0 rfl rfl
    · simp -dsimp -implicitDefEqProofs (disch := omega) [go_sem, -List.getD_eq_getElem?_getD, ite_yes]
      exact ⟨weakS_same (by simp -dsimp -implicitDefEqProofs (disch := omega) [go_sem, -List.getD_eq_getElem?_getD, ite_yes, ht])⟩
  simp only [AWp_drop, AWp_drop0]
  refine AWp.stepR 1 (CrI H) (by kernel_rfl) (by kernel_rfl) ?_ ?_
  · simp -dsimp -implicitDefEqProofs (disch := omega) [go_sem, -List.getD_eq_getElem?_getD, ite_yes]
    refine ACall.via (drawLoadsOf_R h cc) ?_
    rintro _ _ ⟨l, crews, xs, a, off, k, rfl, l1, a1, hd, rfl⟩
    simp -dsimp -implicitDefEqProofs (disch := omega) [go_sem, -List.getD_eq_getElem?_getD, ite_yes]
    exact StepR.of _ _ ⟨l, crews, xs, a, off, k, rfl, rfl, l1, a1, hd⟩ (weakS_mk [some 0, some 1] rfl (by simp -dsimp -implicitDefEqProofs (disch := omega) [go_sem, -List.getD_eq_getElem?_getD, ite_yes]; exact ⟨.inl ⟨rfl, tkE_flat _⟩, .inl ⟨rfl, nmE_flat _⟩⟩) (by simp -dsimp -implicitDefEqProofs (disch := omega) [go_sem, -List.getD_eq_getElem?_getD, ite_yes]))
  rintro _ _ ⟨l, crews, xs, a, off, k, rfl, rfl, l1, a1, hd⟩
  refine AWp.shift (H ++ [some ⟨l.flatMap tkE, true, 56, 3⟩, none, some ⟨a.flatMap nmE, false, 3, 1⟩]) (b := ⟨xs.flatMap nmE, true, 3, 1⟩) (k' := 0) (m := H.length + 2) (by rw [Heap.get_len_add]; rfl) (by rw [← hd, Heap.set_len_add, List.append_assoc]; rfl) (by simp) ?_
  refine AWp.rebase rfl rfl ?_
  have hS : Sl tkE (H ++ [some ⟨l.flatMap tkE, true, 56, 3⟩, none, some ⟨a.flatMap nmE, false, 3, 1⟩]) H.length l := Sl.of rfl
  have hU : Sl nmE (H ++ [some ⟨l.flatMap tkE, true, 56, 3⟩, none, some ⟨a.flatMap nmE, false, 3, 1⟩]) (H.length + 2) a := Sl.nth 2 rfl rfl
  generalize H ++ [some ⟨l.flatMap tkE, true, 56, 3⟩, none, some ⟨a.flatMap nmE, false, 3, 1⟩] = G at hS hU ⊢
  generalize H.length + 2 = u at hU ⊢
  generalize H.length = t at hS ⊢
  simp only [AWp_drop, AWp_drop0, List.cons_append, List.nil_append]
  clear ht
  have ht := hS.lt
  have hu := hU.lt
  have l2 : l.length ≤ 1048577 := by omega
  have a2 : a.length ≤ 1048577 := by omega
  refine AWp.last (by kernel_rfl) ?_
  cases hk : askOk l crews
  · have hb : asgOk l crews a = false := by simp [asgOk, hk]
    simp -dsimp -implicitDefEqProofs (disch := omega) [go_sem, -List.getD_eq_getElem?_getD, ite_yes, ht, hu]
    refine ACall.of (iLoads_bad l crews a l2 a2 hb _ _ _ _ _ (by first | exact hS | exact hS.app) (by first | exact hU | exact hU.app)) ?_
    simp -dsimp -implicitDefEqProofs (disch := omega) [go_sem, -List.getD_eq_getElem?_getD, ite_yes, ht, hu]
    refine ACall.of (sLoads_bad l crews a l2 a2 hb _ _ _ _ _ (by first | exact hS | exact hS.app) (by first | exact hU | exact hU.app)) ?_
    simp -dsimp -implicitDefEqProofs (disch := omega) [go_sem, -List.getD_eq_getElem?_getD, ite_yes, ht, hu]
    refine ACall.of (rInts_nil _ _ _) ?_
    simp -dsimp -implicitDefEqProofs (disch := omega) [go_sem, -List.getD_eq_getElem?_getD, ite_yes, ht, hu]
    refine ACall.of (iBestEnd_bad l crews l2 _ _ _ (by first | exact hS | exact hS.app) hk) ?_
    simp -dsimp -implicitDefEqProofs (disch := omega) [go_sem, -List.getD_eq_getElem?_getD, ite_yes, ht, hu]
    refine ACall.of (sBestEnd_bad l crews l2 _ _ _ (by first | exact hS | exact hS.app) hk) ?_
    simp -dsimp -implicitDefEqProofs (disch := omega) [go_sem, -List.getD_eq_getElem?_getD, ite_yes, ht, hu]
    refine ACall.of (rInts_nil _ _ _) ?_
    simp -dsimp -implicitDefEqProofs (disch := omega) [go_sem, -List.getD_eq_getElem?_getD, ite_yes, ht, hu]
    refine ACall.of (iGreedy_bad l crews l2 _ _ _ (by first | exact hS | exact hS.app) hk) ?_
    simp -dsimp -implicitDefEqProofs (disch := omega) [go_sem, -List.getD_eq_getElem?_getD, ite_yes, ht, hu]
    refine ACall.of (sGreedy_bad l crews l2 _ _ _ (by first | exact hS | exact hS.app) hk) ?_
    simp -dsimp -implicitDefEqProofs (disch := omega) [go_sem, -List.getD_eq_getElem?_getD, ite_yes, ht, hu]
    refine ACall.of (rInts_nil _ _ _) ?_
    simp -dsimp -implicitDefEqProofs (disch := omega) [go_sem, -List.getD_eq_getElem?_getD, ite_yes, ht, hu]
    refine ACall.of (iMove_bad l crews a l2 a2 hb _ _ _ _ _ (by first | exact hS | exact hS.app) (by first | exact hU | exact hU.app)) ?_
    simp -dsimp -implicitDefEqProofs (disch := omega) [go_sem, -List.getD_eq_getElem?_getD, ite_yes, ht, hu]
    refine ACall.of (sMove_bad l crews a l2 a2 hb _ _ _ _ _ (by first | exact hS | exact hS.app) (by first | exact hU | exact hU.app)) ?_
    simp -dsimp -implicitDefEqProofs (disch := omega) [go_sem, -List.getD_eq_getElem?_getD, ite_yes, ht, hu]
    refine ACall.of (iFin_bad l crews a l2 a2 hb _ _ _ _ _ (by first | exact hS | exact hS.app) (by first | exact hU | exact hU.app)) ?_
    simp -dsimp -implicitDefEqProofs (disch := omega) [go_sem, -List.getD_eq_getElem?_getD, ite_yes, ht, hu]
    refine ACall.of (sFin_bad l crews a l2 a2 hb _ _ _ _ _ (by first | exact hS | exact hS.app) (by first | exact hU | exact hU.app)) ?_
    simp -dsimp -implicitDefEqProofs (disch := omega) [go_sem, -List.getD_eq_getElem?_getD, ite_yes, ht, hu]
    refine ACall.of (rInts_nil _ _ _) ?_
    simp -dsimp -implicitDefEqProofs (disch := omega) [go_sem, -List.getD_eq_getElem?_getD, ite_yes, ht, hu]
    exact ⟨rfl, _, rfl⟩
  · obtain ⟨bA, bE, bL⟩ := best_at hk
    have gA := gr_at hk
    have bO := asgOk_of bA
    have gO := asgOk_of gA
    have bs := bestB_small l crews l2
    have gs := grTo_small l crews l2
    have gB := bL _ gA
    have gB' : ¬ endN l crews (grTo l crews l.length).1 < (bestB l crews).2 := by omega
    have bE' : endN l crews (bestB l crews).1 = (bestB l crews).2 := bE.symm
    have loB := loads_le bO (bestB l crews).1.length
    have loG := loads_le gO (grTo l crews l.length).1.length
    have mB := rMost_lo bA
    have mG := rMost_lo gA
    have sB := rSum_lo bA
    have sG := rSum_lo gA
    rw [bE'] at mB
    have iB := fun c c2 K t u hS hU => iLoads_good l crews (bestB l crews).1 l2 bs bO c c2 K t u hS hU
    have iG := fun c c2 K t u hS hU => iLoads_good l crews (grTo l crews l.length).1 l2 gs gO c c2 K t u hS hU
    have iBe := fun c K t hS => iBestEnd_good l crews l2 c K t hS hk
    have sBe := fun c K t hS => sBestEnd_good l crews l2 c K t hS hk
    have iGr := fun c K t hS => iGreedy_good l crews l2 c K t hS hk
    have sGr := fun c K t hS => sGreedy_good l crews l2 c K t hS hk
    generalize hgr : (grTo l crews l.length).1 = gr at *
    generalize hbst : (bestB l crews).1 = bst at *
    generalize (bestB l crews).2 = ben at *
    generalize hloB : loadTo l crews bst bst.length = xB at *
    generalize hloG : loadTo l crews gr gr.length = xG at *
    cases hg : asgOk l crews a
    · simp -dsimp -implicitDefEqProofs (disch := omega) [go_sem, -List.getD_eq_getElem?_getD, ite_yes, ht, hu]
      refine ACall.of (iLoads_bad l crews a l2 a2 hg _ _ _ _ _ (by first | exact hS | exact hS.app) (by first | exact hU | exact hU.app)) ?_
      simp -dsimp -implicitDefEqProofs (disch := omega) [go_sem, -List.getD_eq_getElem?_getD, ite_yes, ht, hu]
      refine ACall.of (sLoads_bad l crews a l2 a2 hg _ _ _ _ _ (by first | exact hS | exact hS.app) (by first | exact hU | exact hU.app)) ?_
      simp -dsimp -implicitDefEqProofs (disch := omega) [go_sem, -List.getD_eq_getElem?_getD, ite_yes, ht, hu]
      refine ACall.of (rInts_nil _ _ _) ?_
      simp -dsimp -implicitDefEqProofs (disch := omega) [go_sem, -List.getD_eq_getElem?_getD, ite_yes, ht, hu]
      refine ACall.of (iBe _ _ _ (by first | exact hS | exact hS.app)) ?_
      simp -dsimp -implicitDefEqProofs (disch := omega) [go_sem, -List.getD_eq_getElem?_getD, ite_yes, ht, hu]
      refine ACall.of (sBe _ _ _ (by first | exact hS | exact hS.app)) ?_
      simp -dsimp -implicitDefEqProofs (disch := omega) [go_sem, -List.getD_eq_getElem?_getD, ite_yes, ht, hu]
      refine ACall.of (rInts_same bst bs _ _ _ _ _ (Sl.nth 1 rfl rfl) (Sl.nth 2 rfl rfl)) ?_
      simp -dsimp -implicitDefEqProofs (disch := omega) [go_sem, -List.getD_eq_getElem?_getD, ite_yes, ht, hu]
      refine ACall.of (iGr _ _ _ (by first | exact hS | exact hS.app)) ?_
      simp -dsimp -implicitDefEqProofs (disch := omega) [go_sem, -List.getD_eq_getElem?_getD, ite_yes, ht, hu]
      refine ACall.of (sGr _ _ _ (by first | exact hS | exact hS.app)) ?_
      simp -dsimp -implicitDefEqProofs (disch := omega) [go_sem, -List.getD_eq_getElem?_getD, ite_yes, ht, hu]
      refine ACall.of (rInts_same gr gs _ _ _ _ _ (Sl.nth 3 rfl rfl) (Sl.nth 4 rfl rfl)) ?_
      simp -dsimp -implicitDefEqProofs (disch := omega) [go_sem, -List.getD_eq_getElem?_getD, ite_yes, ht, hu]
      refine ACall.of (iB _ _ _ _ _ (by first | exact hS | exact hS.app) (Sl.nth 1 rfl rfl)) ?_
      simp -dsimp -implicitDefEqProofs (disch := omega) [go_sem, -List.getD_eq_getElem?_getD, ite_yes, ht, hu]
      refine ACall.of (iG _ _ _ _ _ (by first | exact hS | exact hS.app) (Sl.nth 3 rfl rfl)) ?_
      simp -dsimp -implicitDefEqProofs (disch := omega) [go_sem, -List.getD_eq_getElem?_getD, ite_yes, ht, hu]
      refine ACall.of (mB _ _ _ (Sl.nth 5 rfl rfl)) ?_
      simp -dsimp -implicitDefEqProofs (disch := omega) [go_sem, -List.getD_eq_getElem?_getD, ite_yes, ht, hu]
      refine ACall.of (mG _ _ _ (Sl.nth 6 rfl rfl)) ?_
      simp -dsimp -implicitDefEqProofs (disch := omega) [go_sem, -List.getD_eq_getElem?_getD, ite_yes, ht, hu, gB']
      refine ACall.of (sB _ _ _ (Sl.nth 5 rfl rfl)) ?_
      simp -dsimp -implicitDefEqProofs (disch := omega) [go_sem, -List.getD_eq_getElem?_getD, ite_yes, ht, hu]
      refine ACall.of (sG _ _ _ (Sl.nth 6 rfl rfl)) ?_
      simp -dsimp -implicitDefEqProofs (disch := omega) [go_sem, -List.getD_eq_getElem?_getD, ite_yes, ht, hu]
      refine ACall.of (iMove_bad l crews a l2 a2 hg _ _ _ _ _ (by first | exact hS | exact hS.app) (by first | exact hU | exact hU.app)) ?_
      simp -dsimp -implicitDefEqProofs (disch := omega) [go_sem, -List.getD_eq_getElem?_getD, ite_yes, ht, hu]
      refine ACall.of (sMove_bad l crews a l2 a2 hg _ _ _ _ _ (by first | exact hS | exact hS.app) (by first | exact hU | exact hU.app)) ?_
      simp -dsimp -implicitDefEqProofs (disch := omega) [go_sem, -List.getD_eq_getElem?_getD, ite_yes, ht, hu]
      refine ACall.of (iFin_bad l crews a l2 a2 hg _ _ _ _ _ (by first | exact hS | exact hS.app) (by first | exact hU | exact hU.app)) ?_
      simp -dsimp -implicitDefEqProofs (disch := omega) [go_sem, -List.getD_eq_getElem?_getD, ite_yes, ht, hu]
      refine ACall.of (sFin_bad l crews a l2 a2 hg _ _ _ _ _ (by first | exact hS | exact hS.app) (by first | exact hU | exact hU.app)) ?_
      simp -dsimp -implicitDefEqProofs (disch := omega) [go_sem, -List.getD_eq_getElem?_getD, ite_yes, ht, hu]
      refine ACall.of (rInts_nil _ _ _) ?_
      simp -dsimp -implicitDefEqProofs (disch := omega) [go_sem, -List.getD_eq_getElem?_getD, ite_yes, ht, hu]
      exact ⟨rfl, _, rfl⟩
    · have aA := AsgAt.of hg
      have aB := bL _ aA
      have aB' : ¬ endN l crews a < ben := by omega
      have loA := loads_le hg a.length
      have mA := rMost_lo aA
      have iA := fun c c2 K t u hS hU => iLoads_good l crews a l2 a2 hg c c2 K t u hS hU
      have sA := fun c c2 K t u hS hU => sLoads_good l crews a l2 a2 hg c c2 K t u hS hU
      have iM := fun c c2 K t u hS hU => iMove_good l crews a l2 a2 hg c c2 K t u hS hU
      have sM := fun c c2 K t u hS hU => sMove_good l crews a l2 a2 hg c c2 K t u hS hU
      have iF := fun c c2 K t u hS hU => iFin_good l crews a l2 a2 hg c c2 K t u hS hU
      have sF := fun c c2 K t u hS hU => sFin_good l crews a l2 a2 hg c c2 K t u hS hU
      have mF := rMost_fin aA
      have lF : (finTo l crews a a.length).length ≤ 1048577 := by rw [finTo_length]; exact a2
      have gd := aA.f_good
      have hv := (mv_at (l := l) (a := a) aA.f_crews.1 l.length (Nat.le_refl _)).f_mv
      rw [show mvTo l crews a l.length = mvN l crews a from rfl] at hv
      generalize hloA : loadTo l crews a a.length = xA at *
      generalize hfin : finTo l crews a a.length = xF at *
      simp -dsimp -implicitDefEqProofs (disch := omega) [go_sem, -List.getD_eq_getElem?_getD, ite_yes, ht, hu]
      refine ACall.of (iA _ _ _ _ _ (by first | exact hS | exact hS.app) (by first | exact hU | exact hU.app)) ?_
      simp -dsimp -implicitDefEqProofs (disch := omega) [go_sem, -List.getD_eq_getElem?_getD, ite_yes, ht, hu]
      refine ACall.of (sA _ _ _ _ _ (by first | exact hS | exact hS.app) (by first | exact hU | exact hU.app)) ?_
      simp -dsimp -implicitDefEqProofs (disch := omega) [go_sem, -List.getD_eq_getElem?_getD, ite_yes, ht, hu]
      refine ACall.of (rInts_same xA loA _ _ _ _ _ (Sl.nth 0 rfl rfl) (Sl.nth 1 rfl rfl)) ?_
      simp -dsimp -implicitDefEqProofs (disch := omega) [go_sem, -List.getD_eq_getElem?_getD, ite_yes, ht, hu]
      refine ACall.of (iBe _ _ _ (by first | exact hS | exact hS.app)) ?_
      simp -dsimp -implicitDefEqProofs (disch := omega) [go_sem, -List.getD_eq_getElem?_getD, ite_yes, ht, hu]
      refine ACall.of (sBe _ _ _ (by first | exact hS | exact hS.app)) ?_
      simp -dsimp -implicitDefEqProofs (disch := omega) [go_sem, -List.getD_eq_getElem?_getD, ite_yes, ht, hu]
      refine ACall.of (rInts_same bst bs _ _ _ _ _ (Sl.nth 2 rfl rfl) (Sl.nth 3 rfl rfl)) ?_
      simp -dsimp -implicitDefEqProofs (disch := omega) [go_sem, -List.getD_eq_getElem?_getD, ite_yes, ht, hu]
      refine ACall.of (iGr _ _ _ (by first | exact hS | exact hS.app)) ?_
      simp -dsimp -implicitDefEqProofs (disch := omega) [go_sem, -List.getD_eq_getElem?_getD, ite_yes, ht, hu]
      refine ACall.of (sGr _ _ _ (by first | exact hS | exact hS.app)) ?_
      simp -dsimp -implicitDefEqProofs (disch := omega) [go_sem, -List.getD_eq_getElem?_getD, ite_yes, ht, hu]
      refine ACall.of (rInts_same gr gs _ _ _ _ _ (Sl.nth 4 rfl rfl) (Sl.nth 5 rfl rfl)) ?_
      simp -dsimp -implicitDefEqProofs (disch := omega) [go_sem, -List.getD_eq_getElem?_getD, ite_yes, ht, hu]
      refine ACall.of (iB _ _ _ _ _ (by first | exact hS | exact hS.app) (Sl.nth 2 rfl rfl)) ?_
      simp -dsimp -implicitDefEqProofs (disch := omega) [go_sem, -List.getD_eq_getElem?_getD, ite_yes, ht, hu]
      refine ACall.of (iG _ _ _ _ _ (by first | exact hS | exact hS.app) (Sl.nth 4 rfl rfl)) ?_
      simp -dsimp -implicitDefEqProofs (disch := omega) [go_sem, -List.getD_eq_getElem?_getD, ite_yes, ht, hu]
      refine ACall.of (mB _ _ _ (Sl.nth 6 rfl rfl)) ?_
      simp -dsimp -implicitDefEqProofs (disch := omega) [go_sem, -List.getD_eq_getElem?_getD, ite_yes, ht, hu]
      refine ACall.of (mG _ _ _ (Sl.nth 7 rfl rfl)) ?_
      simp -dsimp -implicitDefEqProofs (disch := omega) [go_sem, -List.getD_eq_getElem?_getD, ite_yes, ht, hu, gB']
      refine ACall.of (mA _ _ _ (Sl.nth 0 rfl rfl)) ?_
      simp -dsimp -implicitDefEqProofs (disch := omega) [go_sem, -List.getD_eq_getElem?_getD, ite_yes, ht, hu, aB']
      refine ACall.of (sB _ _ _ (Sl.nth 6 rfl rfl)) ?_
      simp -dsimp -implicitDefEqProofs (disch := omega) [go_sem, -List.getD_eq_getElem?_getD, ite_yes, ht, hu]
      refine ACall.of (sG _ _ _ (Sl.nth 7 rfl rfl)) ?_
      simp -dsimp -implicitDefEqProofs (disch := omega) [go_sem, -List.getD_eq_getElem?_getD, ite_yes, ht, hu]
      rcases hv with ⟨m1, _⟩ | ⟨i, k', m1, m2, m3, m4, m5, m6⟩
      · rw [iMove_no m1] at iM sM
        refine ACall.of (iM _ _ _ _ _ (by first | exact hS | exact hS.app) (by first | exact hU | exact hU.app)) ?_
        simp -dsimp -implicitDefEqProofs (disch := omega) [go_sem, -List.getD_eq_getElem?_getD, ite_yes, ht, hu]
        refine ACall.of (sM _ _ _ _ _ (by first | exact hS | exact hS.app) (by first | exact hU | exact hU.app)) ?_
        simp -dsimp -implicitDefEqProofs (disch := omega) [go_sem, -List.getD_eq_getElem?_getD, ite_yes, ht, hu]
        refine ACall.of (iF _ _ _ _ _ (by first | exact hS | exact hS.app) (by first | exact hU | exact hU.app)) ?_
        simp -dsimp -implicitDefEqProofs (disch := omega) [go_sem, -List.getD_eq_getElem?_getD, ite_yes, ht, hu]
        refine ACall.of (sF _ _ _ _ _ (by first | exact hS | exact hS.app) (by first | exact hU | exact hU.app)) ?_
        simp -dsimp -implicitDefEqProofs (disch := omega) [go_sem, -List.getD_eq_getElem?_getD, ite_yes, ht, hu]
        refine ACall.of (rInts_same xF lF _ _ _ _ _ (Sl.nth 8 rfl rfl) (Sl.nth 9 rfl rfl)) ?_
        simp -dsimp -implicitDefEqProofs (disch := omega) [go_sem, -List.getD_eq_getElem?_getD, ite_yes, ht, hu]
        refine ACall.of (mF _ _ _ (Sl.nth 8 rfl rfl)) ?_
        simp -dsimp -implicitDefEqProofs (disch := omega) [go_sem, -List.getD_eq_getElem?_getD, ite_yes, ht, hu]
        refine ACall.of (mA _ _ _ (Sl.nth 0 rfl rfl)) ?_
        simp -dsimp -implicitDefEqProofs (disch := omega) [go_sem, -List.getD_eq_getElem?_getD, ite_yes, ht, hu]
        refine ACall.of (iValidTasks_A l l2 _ _ _ (by first | exact hS | exact hS.app)) ?_
        simp -dsimp -implicitDefEqProofs (disch := omega) [go_sem, -List.getD_eq_getElem?_getD, ite_yes, ht, hu, gd]
        exact ⟨rfl, _, rfl⟩
      · have ev : mvV (mvN l crews a) = .tuple #[.int .i64 (i : Int), .int .i64 (k' : Int), .bool true] := by
          unfold mvV
          rw [if_neg (by omega), m1, m2]
        rw [ev] at iM sM
        have al := aA.f_len
        have af := nmE_length a
        have nA := aA.set (i := i) m4
        have nO := asgOk_of nA
        have nl : (a.set i k').length = a.length := List.length_set
        have mN := rMost_lo nA
        have iN := fun c c2 K t u hS hU => iLoads_good l crews (a.set i k') l2 (by rw [nl]; exact a2) nO c c2 K t u hS hU
        have m6' : ¬ endN l crews a ≤ endN l crews (a.set i k') := by omega
        have ia : i < a.length := by omega
        have ns := nm_set a k' ia
        simp only [nl] at iN mN
        have au := hU.all (s := 1) (fun _ => rfl)
        rw [Nat.mul_one] at au
        refine ACall.of (iM _ _ _ _ _ (by first | exact hS | exact hS.app) (by first | exact hU | exact hU.app)) ?_
        simp -dsimp -implicitDefEqProofs (disch := omega) [go_sem, -List.getD_eq_getElem?_getD, ite_yes, ht, hu]
        refine ACall.of (sM _ _ _ _ _ (by first | exact hS | exact hS.app) (by first | exact hU | exact hU.app)) ?_
        simp -dsimp -implicitDefEqProofs (disch := omega) [go_sem, -List.getD_eq_getElem?_getD, ite_yes, ht, hu, au, af, ia]
        refine ⟨by omega, ?_⟩
        refine ACall.of (iN _ _ _ _ _ (by first | exact hS | exact hS.app) (Sl.nth 9 rfl ns)) ?_
        simp -dsimp -implicitDefEqProofs (disch := omega) [go_sem, -List.getD_eq_getElem?_getD, ite_yes, ht, hu]
        refine ACall.of (mN _ _ _ (Sl.nth 10 rfl rfl)) ?_
        simp -dsimp -implicitDefEqProofs (disch := omega) [go_sem, -List.getD_eq_getElem?_getD, ite_yes, ht, hu]
        refine ACall.of (mA _ _ _ (Sl.nth 0 rfl rfl)) ?_
        simp -dsimp -implicitDefEqProofs (disch := omega) [go_sem, -List.getD_eq_getElem?_getD, ite_yes, ht, hu, m6']
        refine ACall.of (iF _ _ _ _ _ (by first | exact hS | exact hS.app) (by first | exact hU | exact hU.app)) ?_
        simp -dsimp -implicitDefEqProofs (disch := omega) [go_sem, -List.getD_eq_getElem?_getD, ite_yes, ht, hu]
        refine ACall.of (sF _ _ _ _ _ (by first | exact hS | exact hS.app) (by first | exact hU | exact hU.app)) ?_
        simp -dsimp -implicitDefEqProofs (disch := omega) [go_sem, -List.getD_eq_getElem?_getD, ite_yes, ht, hu]
        refine ACall.of (rInts_same xF lF _ _ _ _ _ (Sl.nth 11 rfl rfl) (Sl.nth 12 rfl rfl)) ?_
        simp -dsimp -implicitDefEqProofs (disch := omega) [go_sem, -List.getD_eq_getElem?_getD, ite_yes, ht, hu]
        refine ACall.of (mF _ _ _ (Sl.nth 11 rfl rfl)) ?_
        simp -dsimp -implicitDefEqProofs (disch := omega) [go_sem, -List.getD_eq_getElem?_getD, ite_yes, ht, hu]
        refine ACall.of (mA _ _ _ (Sl.nth 0 rfl rfl)) ?_
        simp -dsimp -implicitDefEqProofs (disch := omega) [go_sem, -List.getD_eq_getElem?_getD, ite_yes, ht, hu]
        refine ACall.of (iValidTasks_A l l2 _ _ _ (by first | exact hS | exact hS.app)) ?_
        simp -dsimp -implicitDefEqProofs (disch := omega) [go_sem, -List.getD_eq_getElem?_getD, ite_yes, ht, hu, gd]
        exact ⟨rfl, _, rfl⟩
end Go.Proofs.Ythajahknincjjaa
