/- LoadsOf: both sides, and the law. -/
import Derived.Test.YthajahknincjjaaAssign
namespace Go.Proofs.Ythajahknincjjaa
open Go.Am
set_option linter.unusedVariables false
set_option linter.unusedSimpArgs false
set_option maxRecDepth 100000
set_option maxHeartbeats 1000000
theorem iLoads_bad (l : List Tk) (crews : Int) (a : List Int) (hl : l.length ≤ 1048577) (ha : a.length ≤ 1048577) (hg : asgOk l crews a = false) (c c2 : Nat) (H : Heap) (t u : Nat) (hS : Sl tkE H t l) (hU : Sl nmE H u a) :
    AFunC Try.prog 6 [.slice (some ⟨t, 0, none⟩) l.length c, .int .i64 crews, .slice (some ⟨u, 0, none⟩) a.length c2] H (.tuple #[.slice none 0 0, .bool false]) H := by
  refine AFunC.of_body Try.func6 (by kernel_rfl) rfl (by kernel_rfl) (by simp [Try.ntmps6]) ?_
  have ht := hS.lt
  have hu := hU.lt
  simp -dsimp -implicitDefEqProofs (disch := omega) [go_sem, -List.getD_eq_getElem?_getD, ite_yes]
  refine ACall.of (isAssignment_A l crews a hl ha c c2 _ t u hS hU) ?_
  simp -dsimp -implicitDefEqProofs (disch := omega) [go_sem, -List.getD_eq_getElem?_getD, ite_yes, hg]
  exact fin_flat0 rfl rfl
theorem sLoads_bad (l : List Tk) (crews : Int) (a : List Int) (hl : l.length ≤ 1048577) (ha : a.length ≤ 1048577) (hg : asgOk l crews a = false) (c c2 : Nat) (H : Heap) (t u : Nat) (hS : Sl tkE H t l) (hU : Sl nmE H u a) :
    AFunC Try.prog 7 [.slice (some ⟨t, 0, none⟩) l.length c, .int .i64 crews, .slice (some ⟨u, 0, none⟩) a.length c2] H (.tuple #[.slice (some ⟨H.length, 0, none⟩) 0 0, .bool false]) (H ++ [some ⟨[], true, 3, 1⟩]) := by
  refine AFunC.of_body Try.func7 (by kernel_rfl) rfl (by kernel_rfl) (by simp [Try.ntmps7]) ?_
  have ht := hS.lt
  have hu := hU.lt
  simp -dsimp -implicitDefEqProofs (disch := omega) [go_sem, -List.getD_eq_getElem?_getD, ite_yes]
  refine ACall.of (l22Assignment_A l crews a hl ha c c2 _ t u hS hU) ?_
  simp -dsimp -implicitDefEqProofs (disch := omega) [go_sem, -List.getD_eq_getElem?_getD, ite_yes, hg]
  refine fin_list [some 0] rfl ?_ (by simp -dsimp -implicitDefEqProofs (disch := omega) [go_sem, -List.getD_eq_getElem?_getD, ite_yes])
  simp -dsimp -implicitDefEqProofs (disch := omega) [go_sem, -List.getD_eq_getElem?_getD, ite_yes]
  exact .inl ⟨rfl, rfl⟩
theorem iLoads_good (l : List Tk) (crews : Int) (a : List Int) (hl : l.length ≤ 1048577) (ha : a.length ≤ 1048577) (hg : asgOk l crews a = true) (c c2 : Nat) (H : Heap) (t u : Nat) (hS : Sl tkE H t l) (hU : Sl nmE H u a) :
    AFunC Try.prog 6 [.slice (some ⟨t, 0, none⟩) l.length c, .int .i64 crews, .slice (some ⟨u, 0, none⟩) a.length c2] H (.tuple #[.slice (some ⟨H.length, 0, none⟩) (loadTo l crews a a.length).length (loadTo l crews a a.length).length, .bool true]) (H ++ [some ⟨(loadTo l crews a a.length).flatMap nmE, true, 3, 1⟩]) := by
  refine AFunC.of_body Try.func6 (by kernel_rfl) rfl (by kernel_rfl) (by simp [Try.ntmps6]) ?_
  have ht := hS.lt
  have hu := hU.lt
  simp -dsimp -implicitDefEqProofs (disch := omega) [go_sem, -List.getD_eq_getElem?_getD, ite_yes]
  refine ACall.of (isAssignment_A l crews a hl ha c c2 _ t u hS hU) ?_
  simp -dsimp -implicitDefEqProofs (disch := omega) [go_sem, -List.getD_eq_getElem?_getD, ite_yes, hg]
  refine ACall.of (loadsOf_A l crews a (AsgAt.of hg) c c2 _ t u hS hU) ?_
  simp -dsimp -implicitDefEqProofs (disch := omega) [go_sem, -List.getD_eq_getElem?_getD, ite_yes]
  refine fin_list [some 0] rfl ?_ (by simp -dsimp -implicitDefEqProofs (disch := omega) [go_sem, -List.getD_eq_getElem?_getD, ite_yes])
  simp -dsimp -implicitDefEqProofs (disch := omega) [go_sem, -List.getD_eq_getElem?_getD, ite_yes]
  exact .inl ⟨rfl, nmE_flat _⟩
theorem sLoads_good (l : List Tk) (crews : Int) (a : List Int) (hl : l.length ≤ 1048577) (ha : a.length ≤ 1048577) (hg : asgOk l crews a = true) (c c2 : Nat) (H : Heap) (t u : Nat) (hS : Sl tkE H t l) (hU : Sl nmE H u a) :
    AFunC Try.prog 7 [.slice (some ⟨t, 0, none⟩) l.length c, .int .i64 crews, .slice (some ⟨u, 0, none⟩) a.length c2] H (.tuple #[.slice (some ⟨H.length, 0, none⟩) (loadTo l crews a a.length).length (loadTo l crews a a.length).length, .bool true]) (H ++ [some ⟨(loadTo l crews a a.length).flatMap nmE, true, 3, 1⟩]) := by
  refine AFunC.of_body Try.func7 (by kernel_rfl) rfl (by kernel_rfl) (by simp [Try.ntmps7]) ?_
  have ht := hS.lt
  have hu := hU.lt
  simp -dsimp -implicitDefEqProofs (disch := omega) [go_sem, -List.getD_eq_getElem?_getD, ite_yes]
  refine ACall.of (l22Assignment_A l crews a hl ha c c2 _ t u hS hU) ?_
  simp -dsimp -implicitDefEqProofs (disch := omega) [go_sem, -List.getD_eq_getElem?_getD, ite_yes, hg]
  refine ACall.of (l22Loads_A l crews a (AsgAt.of hg) c c2 _ t u hS hU) ?_
  simp -dsimp -implicitDefEqProofs (disch := omega) [go_sem, -List.getD_eq_getElem?_getD, ite_yes]
  refine fin_list [some 0] rfl ?_ (by simp -dsimp -implicitDefEqProofs (disch := omega) [go_sem, -List.getD_eq_getElem?_getD, ite_yes])
  simp -dsimp -implicitDefEqProofs (disch := omega) [go_sem, -List.getD_eq_getElem?_getD, ite_yes]
  exact .inl ⟨rfl, nmE_flat _⟩
theorem loads_le {l : List Tk} {crews : Int} {a : List Int} (h : asgOk l crews a = true) (k : Nat) : (loadTo l crews a k).length ≤ 1048577 := by
  have := (AsgAt.of h).f_crews
  rw [loadTo_length]; omega
end Go.Proofs.Ythajahknincjjaa
