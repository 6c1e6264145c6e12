/- Helpers of the laws on Network. -/
import Derived.Test.YtamkdgjagjpmlaaNet
import Derived.Test.YtamkdgjagjpmlaaAm15
namespace Go.Proofs.Ytamkdgjagjpmlaa
open Go.Am
set_option linter.unusedVariables false
set_option linter.unusedSimpArgs false
set_option maxRecDepth 100000
set_option maxHeartbeats 2000000

theorem szNet_A (n : Int) (m c : Nat) (hm : (m : Int) ≤ 9223372036854775807) (left : Int) (h0 : 0 ≤ left) (h1 : left ≤ 9223372036854775807) (t : Nat) (H : Heap) : AFunC Try.prog 4 [netV n t m c, .int .i64 left] H (.int .i64 (szPp m left)) H := by
  refine AFunC.of_body Try.func4 (by kernel_rfl) rfl (by kernel_rfl) (by simp [Try.ntmps4]) ?_
  simp -dsimp -implicitDefEqProofs (disch := omega) [go_sem, -List.getD_eq_getElem?_getD, ite_yes]
  refine ACall.of (szPp_A m c hm left h0 h1 t _) ?_
  simp -dsimp -implicitDefEqProofs (disch := omega) [go_sem, -List.getD_eq_getElem?_getD, ite_yes]
  refine AIf.of (fun h => ?_) (fun h => ?_)
  · simp -dsimp -implicitDefEqProofs (disch := omega) [go_sem, -List.getD_eq_getElem?_getD, ite_yes]
    exact fin_flat rfl (by simp at h; unfold szPp at h ⊢; split at h <;> simp_all <;> omega)
  · simp -dsimp -implicitDefEqProofs (disch := omega) [go_sem, -List.getD_eq_getElem?_getD, ite_yes]
    exact fin_flat rfl rfl
theorem toNet_A (n : Int) (l : List Pp) (hl : l.length ≤ 1048577) (c : Nat) (H : Heap) (t : Nat) (hS : Sl ppE H t l) :
    AFunC Try.prog 7 [netV n t l.length c] H (netV n H.length l.length l.length) (H ++ [some ⟨l.flatMap ppE, true, 68, 4⟩]) := by
  refine AFunC.of_body Try.func7 (by kernel_rfl) rfl (by kernel_rfl) (by simp [Try.ntmps7]) ?_
  have ht := hS.lt
  simp -dsimp -implicitDefEqProofs (disch := omega) [go_sem, -List.getD_eq_getElem?_getD, ite_yes, ht]
  refine ACall.of (toPpS_A l hl c _ t hS.app) ?_
  simp -dsimp -implicitDefEqProofs (disch := omega) [go_sem, -List.getD_eq_getElem?_getD, ite_yes, ht]
  refine fin_list [some 3] rfl ?_ (by simp -dsimp -implicitDefEqProofs (disch := omega) [go_sem, -List.getD_eq_getElem?_getD, ite_yes, ht])
  simp -dsimp -implicitDefEqProofs (disch := omega) [go_sem, -List.getD_eq_getElem?_getD, ite_yes]
  exact .inl ⟨rfl, ppE_flat _⟩
theorem eqNet_A (n n' : Int) (l m : List Pp) (hl : l.length ≤ 1048577) (hm : m.length ≤ 1048577) (c d : Nat) (H : Heap) (t u : Nat) (hS : Sl ppE H t l) (hU : Sl ppE H u m) :
    AFunC Try.prog 12 [netV n t l.length c, netV n' u m.length d] H (.bool (decide (n = n') && decide (l = m))) H := by
  refine AFunC.of_body Try.func12 (by kernel_rfl) rfl (by kernel_rfl) (by simp [Try.ntmps12]) ?_
  have ht := hS.lt
  have hu := hU.lt
  simp -dsimp -implicitDefEqProofs (disch := omega) [go_sem, -List.getD_eq_getElem?_getD, ite_yes, ht, hu]
  by_cases hn : n = n'
  · simp -dsimp -implicitDefEqProofs (disch := omega) [go_sem, -List.getD_eq_getElem?_getD, ite_yes, ht, hu, hn]
    refine ACall.of (eqPpS_A l m hl hm c d _ t u hS.app hU.app) ?_
    simp -dsimp -implicitDefEqProofs (disch := omega) [go_sem, -List.getD_eq_getElem?_getD, ite_yes]
    refine AIf.of (fun h => ?_) (fun h => ?_)
    · simp -dsimp -implicitDefEqProofs (disch := omega) [go_sem, -List.getD_eq_getElem?_getD, ite_yes]
      exact fin_flat rfl (by simp at h; simp [h, hn])
    · simp -dsimp -implicitDefEqProofs (disch := omega) [go_sem, -List.getD_eq_getElem?_getD, ite_yes]
      exact fin_flat rfl (by simp at h; simp [h, hn])
  · simp -dsimp -implicitDefEqProofs (disch := omega) [go_sem, -List.getD_eq_getElem?_getD, ite_yes, ht, hu, hn]
    exact fin_flat rfl (by simp [hn])
theorem markNet_A (n : Int) (l : List Pp) (hl : l.length ≤ 1048577) (c e : Nat) (k0 : Int) (h0 : 0 ≤ k0) (h1 : k0 ≤ 100000000) (H : Heap) (t : Nat) (hb : H.get t = some ⟨l.flatMap ppE, true, e, 4⟩) :
    AFunC Try.prog 15 [netV n t l.length c, .int .i64 k0] H (.int .i64 (k0 + 4 * l.length)) (H.set t (some ⟨(marksPp k0 l.length).flatMap ppE, true, e, 4⟩)) := by
  refine AFunC.of_body Try.func15 (by kernel_rfl) rfl (by kernel_rfl) (by simp [Try.ntmps15]) ?_
  have ht := Heap.get_lt hb
  simp -dsimp -implicitDefEqProofs (disch := omega) [go_sem, -List.getD_eq_getElem?_getD, ite_yes, ht]
  refine ACall.of (markPpS_A l hl c e k0 h0 h1 _ t (by rw [Heap.get_append_left ht]; exact hb)) ?_
  simp -dsimp -implicitDefEqProofs (disch := omega) [go_sem, -List.getD_eq_getElem?_getD, ite_yes, ht]
  have := fin_sets (H := H) (t := t) (b := ⟨(marksPp k0 l.length).flatMap ppE, true, e, 4⟩) (L := [some ⟨[.int .i64 n, .slice (some ⟨t, 0, none⟩) l.length c], true, 34, 1⟩]) (L' := []) (v := .int .i64 (k0 + 4 * l.length)) (vf := .int .i64 (k0 + 4 * l.length)) [] rfl ht (L2.refl fun x hx => WM_flat (List.all_eq_true.1 (ppE_flat _) x hx)) trivial rfl
  rwa [List.append_nil] at this
end Go.Proofs.Ytamkdgjagjpmlaa
