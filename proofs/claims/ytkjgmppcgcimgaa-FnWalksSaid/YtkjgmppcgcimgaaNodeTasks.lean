/- NodeTasks: both sides, and the law. -/
import Derived.Test.YtkjgmppcgcimgaaTasks
namespace Go.Proofs.Ytkjgmppcgcimgaa
open Go.Am
set_option linter.unusedVariables false
set_option linter.unusedSimpArgs false
set_option maxRecDepth 100000

def nodeOk (l : List Tk) (node : Int) : Bool := goodT l && inB node 1 8
def nodeTo (l : List Tk) (node : Int) (k : Nat) : List Int := ((l.take k).filter fun x => decide (x.2.1 = node)).map fun x => x.1
theorem nodeTo_zero {l : List Tk} {node : Int} : nodeTo l node 0 = [] := by simp [nodeTo]
theorem nodeTo_yes {l : List Tk} {node : Int} {k : Nat} (hk : k < l.length) (h : (l.getD k (0, 0, 0)).2.1 = node) : nodeTo l node (k + 1) = nodeTo l node k ++ [(l.getD k (0, 0, 0)).1] := by
  have e : l.getD k (0, 0, 0) = l[k] := by simp [List.getD, hk]
  rw [e] at h ⊢
  unfold nodeTo
  rw [List.take_succ_eq_append_getElem hk, List.filter_append, List.map_append]
  simp [h]
theorem nodeTo_no {l : List Tk} {node : Int} {k : Nat} (hk : k < l.length) (h : ¬ (l.getD k (0, 0, 0)).2.1 = node) : nodeTo l node (k + 1) = nodeTo l node k := by
  have e : l.getD k (0, 0, 0) = l[k] := by simp [List.getD, hk]
  rw [e] at h
  unfold nodeTo
  rw [List.take_succ_eq_append_getElem hk, List.filter_append, List.map_append]
  simp [h]
theorem nodeTo_len (l : List Tk) (node : Int) (k : Nat) : (nodeTo l node k).length ≤ l.length := by
  unfold nodeTo
  rw [List.length_map]
  exact Nat.le_trans (List.length_filter_le _ _) (by rw [List.length_take]; omega)
theorem iNode_bad (l : List Tk) (node : Int) (hl : l.length ≤ 1048577) (hg : nodeOk l node = false) (c : Nat) (H : Heap) (t : Nat) (hS : Sl tkE H t l) :
    AFunC Try.prog 21 [.slice (some ⟨t, 0, none⟩) l.length c, .int .i64 node] H (.tuple #[.slice none 0 0, .bool false]) H := by
  refine AFunC.of_body Try.func21 (by kernel_rfl) rfl (by kernel_rfl) (by simp [Try.ntmps21]) ?_
  have ht := hS.lt
  simp -dsimp -implicitDefEqProofs (disch := omega) [go_sem, -List.getD_eq_getElem?_getD, ite_yes]
  refine ACall.of (iValidTasks_A l hl c _ t hS) ?_
  cases g1 : goodT l
  · simp -dsimp -implicitDefEqProofs (disch := omega) [go_sem, -List.getD_eq_getElem?_getD, ite_yes]
    exact fin_flat0 rfl rfl
  have g2 : inB node 1 8 = false := by simpa [nodeOk, g1] using hg
  simp -dsimp -implicitDefEqProofs (disch := omega) [go_sem, -List.getD_eq_getElem?_getD, ite_yes]
  refine ACall.of (isNode_A _ _) ?_
  simp -dsimp -implicitDefEqProofs (disch := omega) [go_sem, -List.getD_eq_getElem?_getD, ite_yes, g2]
  exact fin_flat0 rfl rfl
theorem sNode_bad (l : List Tk) (node : Int) (hl : l.length ≤ 1048577) (hg : nodeOk l node = false) (c : Nat) (H : Heap) (t : Nat) (hS : Sl tkE H t l) :
    AFunC Try.prog 22 [.slice (some ⟨t, 0, none⟩) l.length c, .int .i64 node] H (.tuple #[.slice (some ⟨H.length, 0, none⟩) 0 0, .bool false]) (H ++ [some ⟨[], true, 3, 1⟩]) := by
  refine AFunC.of_body Try.func22 (by kernel_rfl) rfl (by kernel_rfl) (by simp [Try.ntmps22]) ?_
  have ht := hS.lt
  simp -dsimp -implicitDefEqProofs (disch := omega) [go_sem, -List.getD_eq_getElem?_getD, ite_yes]
  refine ACall.of (l22Good_A l hl c _ t hS.app) ?_
  cases g1 : goodT l
  · simp -dsimp -implicitDefEqProofs (disch := omega) [go_sem, -List.getD_eq_getElem?_getD, ite_yes]
    refine fin_list [some 0] rfl ?_ (by simp -dsimp -implicitDefEqProofs (disch := omega) [go_sem, -List.getD_eq_getElem?_getD, ite_yes, ht])
    simp -dsimp -implicitDefEqProofs (disch := omega) [go_sem, -List.getD_eq_getElem?_getD, ite_yes]
    exact .inl ⟨rfl, rfl⟩
  have g2 : inB node 1 8 = false := by simpa [nodeOk, g1] using hg
  simp -dsimp -implicitDefEqProofs (disch := omega) [go_sem, -List.getD_eq_getElem?_getD, ite_yes]
  refine ACall.of (l1In_A _ _ _ _) ?_
  simp -dsimp -implicitDefEqProofs (disch := omega) [go_sem, -List.getD_eq_getElem?_getD, ite_yes, g2]
  refine fin_list [some 0] rfl ?_ (by simp -dsimp -implicitDefEqProofs (disch := omega) [go_sem, -List.getD_eq_getElem?_getD, ite_yes, ht])
  simp -dsimp -implicitDefEqProofs (disch := omega) [go_sem, -List.getD_eq_getElem?_getD, ite_yes]
  exact .inl ⟨rfl, rfl⟩
theorem iNode_good (l : List Tk) (node : Int) (hl : l.length ≤ 1048577) (hg : nodeOk l node = true) (c : Nat) (H : Heap) (t : Nat) (hS : Sl tkE H t l) :
    AFunC Try.prog 21 [.slice (some ⟨t, 0, none⟩) l.length c, .int .i64 node] H (.tuple #[.slice (some ⟨H.length, 0, none⟩) (nodeTo l node l.length).length (nodeTo l node l.length).length, .bool true]) (H ++ [some ⟨(nodeTo l node l.length).flatMap nmE, true, 3, 1⟩]) := by
  refine AFunC.of_body Try.func21 (by kernel_rfl) rfl (by kernel_rfl) (by simp [Try.ntmps21]) ?_
  have ht := hS.lt
  have cs := fun k hk => hS.cells (s := 3) (fun _ => rfl) (0, 0, 0) k hk
  have cs0 := fun k hk => hS.cell (s := 3) (fun _ => rfl) (0, 0, 0) k 0 hk (by omega)
  have cs1 := fun k hk => hS.cell (s := 3) (fun _ => rfl) (0, 0, 0) k 1 hk (by omega)
  simp only [tkE, Nat.add_zero] at cs cs0 cs1
  simp only [nodeOk, Bool.and_eq_true] at hg
  obtain ⟨g1, g2⟩ := hg
  simp -dsimp -implicitDefEqProofs (disch := omega) [go_sem, -List.getD_eq_getElem?_getD, ite_yes]
  refine ACall.of (iValidTasks_A l hl c _ t hS) ?_
  simp -dsimp -implicitDefEqProofs (disch := omega) [go_sem, -List.getD_eq_getElem?_getD, ite_yes, g1]
  refine ACall.of (isNode_A _ _) ?_
  simp -dsimp -implicitDefEqProofs (disch := omega) [go_sem, -List.getD_eq_getElem?_getD, ite_yes, g2]
  refine ALoop.intro (ι := Nat) (fun k => k ≤ l.length) (fun k => [(1, .int .i64 node), (6, .slice (some ⟨H.length, 0, none⟩) (nodeTo l node k).length (nodeTo l node k).length), (18, .slice (some ⟨t, 0, none⟩) l.length c), (19, .int .i64 l.length), (20, .int .i64 k)]) (fun k => H ++ [some ⟨(nodeTo l node k).flatMap nmE, true, 3, 1⟩]) (fun k => l.length - k) 0 (by omega) ?_ ?_
  · refine weakS_mk [some 0] rfl ?_ (by simp -dsimp -implicitDefEqProofs (disch := omega) [go_sem, -List.getD_eq_getElem?_getD, ite_yes, ht, nodeTo_zero])
    simp -dsimp -implicitDefEqProofs (disch := omega) [go_sem, -List.getD_eq_getElem?_getD, ite_yes, nodeTo_zero]
    exact .inl ⟨rfl, rfl⟩
  · intro k hk
    have hfl : ((nodeTo l node k).flatMap nmE).length = (nodeTo l node k).length := by rw [nmE_length]; omega
    have hll := nodeTo_len l node k
    by_cases hlt : k < l.length
    · have cs' := cs k hlt
      have cs0' := cs0 k hlt
      have cs1' := cs1 k hlt
      by_cases h : (l.getD k (0, 0, 0)).2.1 = node
      · have e := nodeTo_yes hlt h
        simp -dsimp -implicitDefEqProofs (disch := omega) [go_sem, -List.getD_eq_getElem?_getD, ite_yes, hlt, ht, cs', cs0', cs1', h, hfl]
        refine ⟨by omega, LoopEnd.of (k + 1) (by omega) (by omega) (weakS_mk [some 3] rfl ?_ (by simp -dsimp -implicitDefEqProofs (disch := omega) [go_sem, -List.getD_eq_getElem?_getD, ite_yes, ht, e]))⟩
        simp -dsimp -implicitDefEqProofs (disch := omega) [go_sem, -List.getD_eq_getElem?_getD, ite_yes, e]
        exact .inl ⟨by simp [nmE], by simp [nmE, flat]⟩
      · have e := nodeTo_no hlt h
        simp -dsimp -implicitDefEqProofs (disch := omega) [go_sem, -List.getD_eq_getElem?_getD, ite_yes, hlt, ht, cs', cs0', cs1', h, hfl]
        refine LoopEnd.of (k + 1) (by omega) (by omega) (weakS_mk [some 0] rfl ?_ (by simp -dsimp -implicitDefEqProofs (disch := omega) [go_sem, -List.getD_eq_getElem?_getD, ite_yes, ht, e]))
        simp -dsimp -implicitDefEqProofs (disch := omega) [go_sem, -List.getD_eq_getElem?_getD, ite_yes, e]
        exact .inl ⟨rfl, nmE_flat _⟩
    · simp -dsimp -implicitDefEqProofs (disch := omega) [go_sem, -List.getD_eq_getElem?_getD, ite_yes, hlt]
      obtain rfl : k = l.length := by omega
      refine fin_list [some 0] rfl ?_ (by simp -dsimp -implicitDefEqProofs (disch := omega) [go_sem, -List.getD_eq_getElem?_getD, ite_yes])
      simp -dsimp -implicitDefEqProofs (disch := omega) [go_sem, -List.getD_eq_getElem?_getD, ite_yes]
      exact .inl ⟨rfl, nmE_flat _⟩
theorem sNode_good (l : List Tk) (node : Int) (hl : l.length ≤ 1048577) (hg : nodeOk l node = true) (c : Nat) (H : Heap) (t : Nat) (hS : Sl tkE H t l) :
    AFunC Try.prog 22 [.slice (some ⟨t, 0, none⟩) l.length c, .int .i64 node] H (.tuple #[.slice (some ⟨H.length, 0, none⟩) (nodeTo l node l.length).length (nodeTo l node l.length).length, .bool true]) (H ++ [some ⟨(nodeTo l node l.length).flatMap nmE, true, 3, 1⟩]) := by
  refine AFunC.of_body Try.func22 (by kernel_rfl) rfl (by kernel_rfl) (by simp [Try.ntmps22]) ?_
  have ht := hS.lt
  have cs := fun k hk => hS.cells (s := 3) (fun _ => rfl) (0, 0, 0) k hk
  have cs0 := fun k hk => hS.cell (s := 3) (fun _ => rfl) (0, 0, 0) k 0 hk (by omega)
  have cs1 := fun k hk => hS.cell (s := 3) (fun _ => rfl) (0, 0, 0) k 1 hk (by omega)
  simp only [tkE, Nat.add_zero] at cs cs0 cs1
  simp only [nodeOk, Bool.and_eq_true] at hg
  obtain ⟨g1, g2⟩ := hg
  simp -dsimp -implicitDefEqProofs (disch := omega) [go_sem, -List.getD_eq_getElem?_getD, ite_yes]
  refine ACall.of (l22Good_A l hl c _ t hS.app) ?_
  simp -dsimp -implicitDefEqProofs (disch := omega) [go_sem, -List.getD_eq_getElem?_getD, ite_yes, g1]
  refine ACall.of (l1In_A _ _ _ _) ?_
  simp -dsimp -implicitDefEqProofs (disch := omega) [go_sem, -List.getD_eq_getElem?_getD, ite_yes, g2]
  refine ALoop.intro (ι := Nat) (fun k => k ≤ l.length) (fun k => [(0, .slice (some ⟨t, 0, none⟩) l.length c), (1, .int .i64 node), (6, .slice (some ⟨H.length, 0, none⟩) (nodeTo l node k).length (nodeTo l node k).length), (7, .int .i64 k)]) (fun k => H ++ [some ⟨(nodeTo l node k).flatMap nmE, true, 3, 1⟩]) (fun k => l.length - k) 0 (by omega) ?_ ?_
  · refine weakS_mk [some 0] rfl ?_ (by simp -dsimp -implicitDefEqProofs (disch := omega) [go_sem, -List.getD_eq_getElem?_getD, ite_yes, ht, nodeTo_zero])
    simp -dsimp -implicitDefEqProofs (disch := omega) [go_sem, -List.getD_eq_getElem?_getD, ite_yes, nodeTo_zero]
    exact .inl ⟨rfl, rfl⟩
  · intro k hk
    have hfl : ((nodeTo l node k).flatMap nmE).length = (nodeTo l node k).length := by rw [nmE_length]; omega
    have hll := nodeTo_len l node k
    by_cases hlt : k < l.length
    · have cs' := cs k hlt
      have cs0' := cs0 k hlt
      have cs1' := cs1 k hlt
      by_cases h : (l.getD k (0, 0, 0)).2.1 = node
      · have e := nodeTo_yes hlt h
        simp -dsimp -implicitDefEqProofs (disch := omega) [go_sem, -List.getD_eq_getElem?_getD, ite_yes, hlt, ht, cs', cs0', cs1', h, hfl]
        refine ⟨by omega, LoopEnd.of (k + 1) (by omega) (by omega) (weakS_mk [some 2] rfl ?_ (by simp -dsimp -implicitDefEqProofs (disch := omega) [go_sem, -List.getD_eq_getElem?_getD, ite_yes, ht, e]))⟩
        simp -dsimp -implicitDefEqProofs (disch := omega) [go_sem, -List.getD_eq_getElem?_getD, ite_yes, e]
        exact .inl ⟨by simp [nmE], by simp [nmE, flat]⟩
      · have e := nodeTo_no hlt h
        simp -dsimp -implicitDefEqProofs (disch := omega) [go_sem, -List.getD_eq_getElem?_getD, ite_yes, hlt, ht, cs', cs0', cs1', h, hfl]
        refine LoopEnd.of (k + 1) (by omega) (by omega) (weakS_mk [some 0] rfl ?_ (by simp -dsimp -implicitDefEqProofs (disch := omega) [go_sem, -List.getD_eq_getElem?_getD, ite_yes, ht, e]))
        simp -dsimp -implicitDefEqProofs (disch := omega) [go_sem, -List.getD_eq_getElem?_getD, ite_yes, e]
        exact .inl ⟨rfl, nmE_flat _⟩
    · simp -dsimp -implicitDefEqProofs (disch := omega) [go_sem, -List.getD_eq_getElem?_getD, ite_yes, hlt]
      obtain rfl : k = l.length := by omega
      refine fin_list [some 0] rfl ?_ (by simp -dsimp -implicitDefEqProofs (disch := omega) [go_sem, -List.getD_eq_getElem?_getD, ite_yes])
      simp -dsimp -implicitDefEqProofs (disch := omega) [go_sem, -List.getD_eq_getElem?_getD, ite_yes]
      exact .inl ⟨rfl, nmE_flat _⟩
end Go.Proofs.Ytkjgmppcgcimgaa
