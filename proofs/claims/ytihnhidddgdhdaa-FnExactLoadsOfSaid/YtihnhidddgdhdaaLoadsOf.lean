/- LoadsOf: both sides, and the law. -/
import Derived.Test.YtihnhidddgdhdaaAssign
namespace Go.Proofs.Ytihnhidddgdhdaa
open Go.Am
set_option linter.unusedVariables false
set_option linter.unusedSimpArgs false
set_option maxRecDepth 100000
set_option maxHeartbeats 1000000
theorem iLoads_bad (l : List Tk) (crews : Int) (a : List Int) (hl : l.length ≤ 1048577) (ha : a.length ≤ 1048577) (hg : asgOk l crews a = false) (c c2 : Nat) (H : Heap) (t u : Nat) (hS : Sl tkE H t l) (hU : Sl nmE H u a) :
    AFunC Try.prog 25 [.slice (some ⟨t, 0, none⟩) l.length c, .int .i64 crews, .slice (some ⟨u, 0, none⟩) a.length c2] H (.tuple #[.slice none 0 0, .bool false]) H := by
  refine AFunC.of_body Try.func25 (by kernel_rfl) rfl (by kernel_rfl) (by simp [Try.ntmps25]) ?_
  have ht := hS.lt
  have hu := hU.lt
  simp -dsimp -implicitDefEqProofs (disch := omega) [go_sem, -List.getD_eq_getElem?_getD, ite_yes]
  refine ACall.of (isAssignment_A l crews a hl ha c c2 _ t u hS hU) ?_
  simp -dsimp -implicitDefEqProofs (disch := omega) [go_sem, -List.getD_eq_getElem?_getD, ite_yes, hg]
  exact fin_flat0 rfl rfl
theorem sLoads_bad (l : List Tk) (crews : Int) (a : List Int) (hl : l.length ≤ 1048577) (ha : a.length ≤ 1048577) (hg : asgOk l crews a = false) (c c2 : Nat) (H : Heap) (t u : Nat) (hS : Sl tkE H t l) (hU : Sl nmE H u a) :
    AFunC Try.prog 24 [.slice (some ⟨t, 0, none⟩) l.length c, .int .i64 crews, .slice (some ⟨u, 0, none⟩) a.length c2] H (.tuple #[.slice (some ⟨H.length, 0, none⟩) 0 0, .bool false]) (H ++ [some ⟨[], true, 3, 1⟩]) := by
  refine AFunC.of_body Try.func24 (by kernel_rfl) rfl (by kernel_rfl) (by simp [Try.ntmps24]) ?_
  have ht := hS.lt
  have hu := hU.lt
  simp -dsimp -implicitDefEqProofs (disch := omega) [go_sem, -List.getD_eq_getElem?_getD, ite_yes]
  refine ACall.of (l22Assignment_A l crews a hl ha c c2 _ t u hS hU) ?_
  simp -dsimp -implicitDefEqProofs (disch := omega) [go_sem, -List.getD_eq_getElem?_getD, ite_yes, hg]
  refine fin_list [some 0] rfl ?_ (by simp -dsimp -implicitDefEqProofs (disch := omega) [go_sem, -List.getD_eq_getElem?_getD, ite_yes])
  simp -dsimp -implicitDefEqProofs (disch := omega) [go_sem, -List.getD_eq_getElem?_getD, ite_yes]
  exact .inl ⟨rfl, rfl⟩
theorem iLoads_good (l : List Tk) (crews : Int) (a : List Int) (hl : l.length ≤ 1048577) (ha : a.length ≤ 1048577) (hg : asgOk l crews a = true) (c c2 : Nat) (H : Heap) (t u : Nat) (hS : Sl tkE H t l) (hU : Sl nmE H u a) :
    AFunC Try.prog 25 [.slice (some ⟨t, 0, none⟩) l.length c, .int .i64 crews, .slice (some ⟨u, 0, none⟩) a.length c2] H (.tuple #[.slice (some ⟨H.length, 0, none⟩) (loadTo l crews a a.length).length (loadTo l crews a a.length).length, .bool true]) (H ++ [some ⟨(loadTo l crews a a.length).flatMap nmE, true, 3, 1⟩]) := by
  refine AFunC.of_body Try.func25 (by kernel_rfl) rfl (by kernel_rfl) (by simp [Try.ntmps25]) ?_
  have ht := hS.lt
  have hu := hU.lt
  simp -dsimp -implicitDefEqProofs (disch := omega) [go_sem, -List.getD_eq_getElem?_getD, ite_yes]
  refine ACall.of (isAssignment_A l crews a hl ha c c2 _ t u hS hU) ?_
  simp -dsimp -implicitDefEqProofs (disch := omega) [go_sem, -List.getD_eq_getElem?_getD, ite_yes, hg]
  refine ACall.of (loadsOf_A l crews a (AsgAt.of hg) c c2 _ t u hS hU) ?_
  simp -dsimp -implicitDefEqProofs (disch := omega) [go_sem, -List.getD_eq_getElem?_getD, ite_yes]
  refine fin_list [some 0] rfl ?_ (by simp -dsimp -implicitDefEqProofs (disch := omega) [go_sem, -List.getD_eq_getElem?_getD, ite_yes])
  simp -dsimp -implicitDefEqProofs (disch := omega) [go_sem, -List.getD_eq_getElem?_getD, ite_yes]
  exact .inl ⟨rfl, nmE_flat _⟩
theorem sLoads_good (l : List Tk) (crews : Int) (a : List Int) (hl : l.length ≤ 1048577) (ha : a.length ≤ 1048577) (hg : asgOk l crews a = true) (c c2 : Nat) (H : Heap) (t u : Nat) (hS : Sl tkE H t l) (hU : Sl nmE H u a) :
    AFunC Try.prog 24 [.slice (some ⟨t, 0, none⟩) l.length c, .int .i64 crews, .slice (some ⟨u, 0, none⟩) a.length c2] H (.tuple #[.slice (some ⟨H.length, 0, none⟩) (loadTo l crews a a.length).length (loadTo l crews a a.length).length, .bool true]) (H ++ [some ⟨(loadTo l crews a a.length).flatMap nmE, true, 3, 1⟩]) := by
  refine AFunC.of_body Try.func24 (by kernel_rfl) rfl (by kernel_rfl) (by simp [Try.ntmps24]) ?_
  have ht := hS.lt
  have hu := hU.lt
  simp -dsimp -implicitDefEqProofs (disch := omega) [go_sem, -List.getD_eq_getElem?_getD, ite_yes]
  refine ACall.of (l22Assignment_A l crews a hl ha c c2 _ t u hS hU) ?_
  simp -dsimp -implicitDefEqProofs (disch := omega) [go_sem, -List.getD_eq_getElem?_getD, ite_yes, hg]
  refine ACall.of (l22Loads_A l crews a (AsgAt.of hg) c c2 _ t u hS hU) ?_
  simp -dsimp -implicitDefEqProofs (disch := omega) [go_sem, -List.getD_eq_getElem?_getD, ite_yes]
  refine fin_list [some 0] rfl ?_ (by simp -dsimp -implicitDefEqProofs (disch := omega) [go_sem, -List.getD_eq_getElem?_getD, ite_yes])
  simp -dsimp -implicitDefEqProofs (disch := omega) [go_sem, -List.getD_eq_getElem?_getD, ite_yes]
  exact .inl ⟨rfl, nmE_flat _⟩
theorem loads_le {l : List Tk} {crews : Int} {a : List Int} (h : asgOk l crews a = true) (k : Nat) : (loadTo l crews a k).length ≤ 1048577 := by
  have := (AsgAt.of h).f_crews
  rw [loadTo_length]; omega
theorem lawLoadsOf_A (l : List Tk) (hl0 : l.length ≤ 9223372036854775807) (c0 : Nat) (crews : Int) (a : List Nm) (hl1 : a.length ≤ 9223372036854775807) (c1 : Nat) (H : Heap) (t0 : Nat) (hS0 : Sl tkE H t0 l) (t1 : Nat) (hS1 : Sl nmE H t1 a) :
    AFunC Try.prog 6 [.slice (some ⟨t0, 0, none⟩) l.length c0, .int .i64 crews, .slice (some ⟨t1, 0, none⟩) a.length c1] H (.bool true) H := by
  refine AFunC.of_body Try.func6 (by kernel_rfl) rfl (by kernel_rfl) (by simp [Try.ntmps6]) ?_
  have ht0 := hS0.lt
  have ht1 := hS1.lt
  simp -dsimp -implicitDefEqProofs (disch := omega) [go_sem, -List.getD_eq_getElem?_getD, ite_yes, ht0, ht1]
  refine AIf.of (fun h => ?_) (fun h => ?_)
  · simp -dsimp -implicitDefEqProofs (disch := omega) [go_sem, -List.getD_eq_getElem?_getD, ite_yes]
    first | exact fin_flat0 rfl rfl | exact fin_flat rfl rfl
  have hlen1 : a.length ≤ 1048577 := by
    have := of_decide_eq_false h
    omega
  simp -dsimp -implicitDefEqProofs (disch := omega) [go_sem, -List.getD_eq_getElem?_getD, ite_yes, ht0, ht1]
  refine ACall.of (szTk_A l.length c0 (by omega) _ (by omega) (by omega) t0 _) ?_
  simp -dsimp -implicitDefEqProofs (disch := omega) [go_sem, -List.getD_eq_getElem?_getD, ite_yes, ht0, ht1]
  refine AIf.of (fun h => ?_) (fun h => ?_)
  · simp -dsimp -implicitDefEqProofs (disch := omega) [go_sem, -List.getD_eq_getElem?_getD, ite_yes]
    first | exact fin_flat0 rfl rfl | exact fin_flat rfl rfl
  have hlen0 : l.length ≤ 1048577 := by
    have := szTk_len (by simpa using h)
    omega
  simp -dsimp -implicitDefEqProofs (disch := omega) [go_sem, -List.getD_eq_getElem?_getD, ite_yes, ht0, ht1]
  rcases Bool.eq_false_or_eq_true (asgOk l crews a) with hg | hg
  · have hu := loads_le hg a.length
    refine ACall.of (toTkS_A l hlen0 c0 _ t0 hS0) ?_
    simp -dsimp -implicitDefEqProofs (disch := omega) [go_sem, -List.getD_eq_getElem?_getD, ite_yes, ht0, ht1]
    refine ACall.of (toNmS_A a hlen1 c1 _ t1 hS1.app) ?_
    simp -dsimp -implicitDefEqProofs (disch := omega) [go_sem, -List.getD_eq_getElem?_getD, ite_yes, ht0, ht1]
    refine ACall.of (sLoads_good l crews a hlen0 hlen1 hg _ _ _ _ _ (Sl.of rfl) (Sl.nth 1 rfl rfl)) ?_
    simp -dsimp -implicitDefEqProofs (disch := omega) [go_sem, -List.getD_eq_getElem?_getD, ite_yes, ht0, ht1]
    refine ACall.of (toTkS_A l hlen0 c0 _ t0 hS0.app) ?_
    simp -dsimp -implicitDefEqProofs (disch := omega) [go_sem, -List.getD_eq_getElem?_getD, ite_yes, ht0, ht1]
    refine ACall.of (toNmS_A a hlen1 c1 _ t1 hS1.app) ?_
    simp -dsimp -implicitDefEqProofs (disch := omega) [go_sem, -List.getD_eq_getElem?_getD, ite_yes, ht0, ht1]
    refine ACall.of (iLoads_good l crews a hlen0 hlen1 hg _ _ _ _ _ (Sl.nth 3 rfl rfl) (Sl.nth 4 rfl rfl)) ?_
    simp -dsimp -implicitDefEqProofs (disch := omega) [go_sem, -List.getD_eq_getElem?_getD, ite_yes, ht0, ht1]
    refine ACall.of (eqNmS_A (loadTo l crews a a.length) (loadTo l crews a a.length) hu hu _ _ _ _ _ (Sl.nth 5 rfl rfl) (Sl.nth 2 rfl rfl)) ?_
    simp -dsimp -implicitDefEqProofs (disch := omega) [go_sem, -List.getD_eq_getElem?_getD, ite_yes, ht0, ht1]
    refine ACall.of (toTkS_A l hlen0 c0 _ t0 hS0.app) ?_
    simp -dsimp -implicitDefEqProofs (disch := omega) [go_sem, -List.getD_eq_getElem?_getD, ite_yes, ht0, ht1]
    refine ACall.of (eqTkS_A l l hlen0 hlen0 _ _ _ _ _ (Sl.nth 3 rfl rfl) (Sl.nth 6 rfl rfl)) ?_
    simp -dsimp -implicitDefEqProofs (disch := omega) [go_sem, -List.getD_eq_getElem?_getD, ite_yes, ht0, ht1]
    refine ACall.of (toNmS_A a hlen1 c1 _ t1 hS1.app) ?_
    simp -dsimp -implicitDefEqProofs (disch := omega) [go_sem, -List.getD_eq_getElem?_getD, ite_yes, ht0, ht1]
    refine ACall.of (eqNmS_A a a hlen1 hlen1 _ _ _ _ _ (Sl.nth 4 rfl rfl) (Sl.nth 7 rfl rfl)) ?_
    simp -dsimp -implicitDefEqProofs (disch := omega) [go_sem, -List.getD_eq_getElem?_getD, ite_yes, ht0, ht1]
    refine ACall.of (markTkS_A l hlen0 _ _ _ (by omega) (by omega) _ _ ((Heap.get_len_add _ _ 3).trans rfl)) ?_
    simp -dsimp -implicitDefEqProofs (disch := omega) [go_sem, -List.getD_eq_getElem?_getD, ite_yes, ht0, ht1]
    refine ACall.of (markNmS_A a hlen1 _ _ _ (by omega) (by omega) _ _ ((Heap.get_len_add _ _ 4).trans rfl)) ?_
    simp -dsimp -implicitDefEqProofs (disch := omega) [go_sem, -List.getD_eq_getElem?_getD, ite_yes, ht0, ht1]
    refine AIf.of (fun h => absurd (of_decide_eq_true h) (by omega)) (fun _ => ?_)
    simp -dsimp -implicitDefEqProofs (disch := omega) [go_sem, -List.getD_eq_getElem?_getD, ite_yes, ht0, ht1]
    refine ACall.of (eqNmS_A (loadTo l crews a a.length) (loadTo l crews a a.length) hu hu _ _ _ _ _ (Sl.nth 5 rfl rfl) (Sl.nth 2 rfl rfl)) ?_
    simp -dsimp -implicitDefEqProofs (disch := omega) [go_sem, -List.getD_eq_getElem?_getD, ite_yes, ht0, ht1]
    refine ACall.of (markNmS_A (loadTo l crews a a.length) hu _ _ _ (by omega) (by omega) _ _ ((Heap.get_len_add _ _ 5).trans rfl)) ?_
    simp -dsimp -implicitDefEqProofs (disch := omega) [go_sem, -List.getD_eq_getElem?_getD, ite_yes, ht0, ht1]
    refine ACall.of (heldNmS_A _ hu _ _ (by omega) (by omega) _ _ (Sl.nth 5 rfl rfl)) ?_
    simp -dsimp -implicitDefEqProofs (disch := omega) [go_sem, -List.getD_eq_getElem?_getD, ite_yes, ht0, ht1]
    refine AIf.of (fun h => absurd (of_decide_eq_true h) (by omega)) (fun _ => ?_)
    simp -dsimp -implicitDefEqProofs (disch := omega) [go_sem, -List.getD_eq_getElem?_getD, ite_yes, ht0, ht1]
    refine ACall.of (toTkS_A l hlen0 c0 _ t0 hS0.app) ?_
    simp -dsimp -implicitDefEqProofs (disch := omega) [go_sem, -List.getD_eq_getElem?_getD, ite_yes, ht0, ht1]
    refine ACall.of (toNmS_A a hlen1 c1 _ t1 hS1.app) ?_
    simp -dsimp -implicitDefEqProofs (disch := omega) [go_sem, -List.getD_eq_getElem?_getD, ite_yes, ht0, ht1]
    refine ACall.of (iLoads_good l crews a hlen0 hlen1 hg _ _ _ _ _ (Sl.nth 8 rfl rfl) (Sl.nth 9 rfl rfl)) ?_
    simp -dsimp -implicitDefEqProofs (disch := omega) [go_sem, -List.getD_eq_getElem?_getD, ite_yes, ht0, ht1]
    refine ACall.of (eqNmS_A (loadTo l crews a a.length) (loadTo l crews a a.length) hu hu _ _ _ _ _ (Sl.nth 10 rfl rfl) (Sl.nth 2 rfl rfl)) ?_
    simp -dsimp -implicitDefEqProofs (disch := omega) [go_sem, -List.getD_eq_getElem?_getD, ite_yes, ht0, ht1]
    refine ACall.of (heldNmS_A _ hu _ _ (by omega) (by omega) _ _ (Sl.nth 5 rfl rfl)) ?_
    simp -dsimp -implicitDefEqProofs (disch := omega) [go_sem, -List.getD_eq_getElem?_getD, ite_yes, ht0, ht1]
    refine AIf.of (fun h => absurd (of_decide_eq_true h) (by omega)) (fun _ => ?_)
    simp -dsimp -implicitDefEqProofs (disch := omega) [go_sem, -List.getD_eq_getElem?_getD, ite_yes, ht0, ht1]
    exact fin_flat rfl rfl
  · refine ACall.of (toTkS_A l hlen0 c0 _ t0 hS0) ?_
    simp -dsimp -implicitDefEqProofs (disch := omega) [go_sem, -List.getD_eq_getElem?_getD, ite_yes, ht0, ht1]
    refine ACall.of (toNmS_A a hlen1 c1 _ t1 hS1.app) ?_
    simp -dsimp -implicitDefEqProofs (disch := omega) [go_sem, -List.getD_eq_getElem?_getD, ite_yes, ht0, ht1]
    refine ACall.of (sLoads_bad l crews a hlen0 hlen1 hg _ _ _ _ _ (Sl.of rfl) (Sl.nth 1 rfl rfl)) ?_
    simp -dsimp -implicitDefEqProofs (disch := omega) [go_sem, -List.getD_eq_getElem?_getD, ite_yes, ht0, ht1]
    refine ACall.of (toTkS_A l hlen0 c0 _ t0 hS0.app) ?_
    simp -dsimp -implicitDefEqProofs (disch := omega) [go_sem, -List.getD_eq_getElem?_getD, ite_yes, ht0, ht1]
    refine ACall.of (toNmS_A a hlen1 c1 _ t1 hS1.app) ?_
    simp -dsimp -implicitDefEqProofs (disch := omega) [go_sem, -List.getD_eq_getElem?_getD, ite_yes, ht0, ht1]
    refine ACall.of (iLoads_bad l crews a hlen0 hlen1 hg _ _ _ _ _ (Sl.nth 3 rfl rfl) (Sl.nth 4 rfl rfl)) ?_
    simp -dsimp -implicitDefEqProofs (disch := omega) [go_sem, -List.getD_eq_getElem?_getD, ite_yes, ht0, ht1]
    refine ACall.of (eqNmS_nil _ _ _) ?_
    simp -dsimp -implicitDefEqProofs (disch := omega) [go_sem, -List.getD_eq_getElem?_getD, ite_yes, ht0, ht1]
    refine ACall.of (toTkS_A l hlen0 c0 _ t0 hS0.app) ?_
    simp -dsimp -implicitDefEqProofs (disch := omega) [go_sem, -List.getD_eq_getElem?_getD, ite_yes, ht0, ht1]
    refine ACall.of (eqTkS_A l l hlen0 hlen0 _ _ _ _ _ (Sl.nth 3 rfl rfl) (Sl.nth 5 rfl rfl)) ?_
    simp -dsimp -implicitDefEqProofs (disch := omega) [go_sem, -List.getD_eq_getElem?_getD, ite_yes, ht0, ht1]
    refine ACall.of (toNmS_A a hlen1 c1 _ t1 hS1.app) ?_
    simp -dsimp -implicitDefEqProofs (disch := omega) [go_sem, -List.getD_eq_getElem?_getD, ite_yes, ht0, ht1]
    refine ACall.of (eqNmS_A a a hlen1 hlen1 _ _ _ _ _ (Sl.nth 4 rfl rfl) (Sl.nth 6 rfl rfl)) ?_
    simp -dsimp -implicitDefEqProofs (disch := omega) [go_sem, -List.getD_eq_getElem?_getD, ite_yes, ht0, ht1]
    refine ACall.of (markTkS_A l hlen0 _ _ _ (by omega) (by omega) _ _ ((Heap.get_len_add _ _ 3).trans rfl)) ?_
    simp -dsimp -implicitDefEqProofs (disch := omega) [go_sem, -List.getD_eq_getElem?_getD, ite_yes, ht0, ht1]
    refine ACall.of (markNmS_A a hlen1 _ _ _ (by omega) (by omega) _ _ ((Heap.get_len_add _ _ 4).trans rfl)) ?_
    simp -dsimp -implicitDefEqProofs (disch := omega) [go_sem, -List.getD_eq_getElem?_getD, ite_yes, ht0, ht1]
    refine AIf.of (fun h => absurd (of_decide_eq_true h) (by omega)) (fun _ => ?_)
    simp -dsimp -implicitDefEqProofs (disch := omega) [go_sem, -List.getD_eq_getElem?_getD, ite_yes, ht0, ht1]
    refine ACall.of (eqNmS_nil _ _ _) ?_
    simp -dsimp -implicitDefEqProofs (disch := omega) [go_sem, -List.getD_eq_getElem?_getD, ite_yes, ht0, ht1]
    refine ACall.of (markNmS_nil _ _) ?_
    simp -dsimp -implicitDefEqProofs (disch := omega) [go_sem, -List.getD_eq_getElem?_getD, ite_yes, ht0, ht1]
    refine ACall.of (heldNmS_nil _ _) ?_
    simp -dsimp -implicitDefEqProofs (disch := omega) [go_sem, -List.getD_eq_getElem?_getD, ite_yes, ht0, ht1]
    refine ACall.of (toTkS_A l hlen0 c0 _ t0 hS0.app) ?_
    simp -dsimp -implicitDefEqProofs (disch := omega) [go_sem, -List.getD_eq_getElem?_getD, ite_yes, ht0, ht1]
    refine ACall.of (toNmS_A a hlen1 c1 _ t1 hS1.app) ?_
    simp -dsimp -implicitDefEqProofs (disch := omega) [go_sem, -List.getD_eq_getElem?_getD, ite_yes, ht0, ht1]
    refine ACall.of (iLoads_bad l crews a hlen0 hlen1 hg _ _ _ _ _ (Sl.nth 7 rfl rfl) (Sl.nth 8 rfl rfl)) ?_
    simp -dsimp -implicitDefEqProofs (disch := omega) [go_sem, -List.getD_eq_getElem?_getD, ite_yes, ht0, ht1]
    refine ACall.of (eqNmS_nil _ _ _) ?_
    simp -dsimp -implicitDefEqProofs (disch := omega) [go_sem, -List.getD_eq_getElem?_getD, ite_yes, ht0, ht1]
    refine ACall.of (heldNmS_nil _ _) ?_
    simp -dsimp -implicitDefEqProofs (disch := omega) [go_sem, -List.getD_eq_getElem?_getD, ite_yes, ht0, ht1]
    exact fin_flat rfl rfl
end Go.Proofs.Ytihnhidddgdhdaa
