/- Helpers of the laws on Tariff. -/
import Derived.Test.YtappbdfieccfeaaTarV
import Derived.Test.YtappbdfieccfeaaAm15
namespace Go.Proofs.Ytappbdfieccfeaa
open Go.Am
set_option linter.unusedVariables false
set_option linter.unusedSimpArgs false
set_option maxRecDepth 100000
set_option maxHeartbeats 2000000

theorem szTar_A (n : Int) (m c : Nat) (hm : (m : Int) ≤ 9223372036854775807) (left : Int) (h0 : 0 ≤ left) (h1 : left ≤ 9223372036854775807) (t : Nat) (H : Heap) : AFunC Try.prog 13 [tarV n t m c, .int .i64 left] H (.int .i64 (szBk m left)) H := by
  refine AFunC.of_body Try.func13 (by kernel_rfl) rfl (by kernel_rfl) (by simp [Try.ntmps13]) ?_
  simp -dsimp -implicitDefEqProofs (disch := omega) [go_sem, -List.getD_eq_getElem?_getD, ite_yes]
  refine ACall.of (szBk_A m c hm left h0 h1 t _) ?_
  simp -dsimp -implicitDefEqProofs (disch := omega) [go_sem, -List.getD_eq_getElem?_getD, ite_yes]
  refine AIf.of (fun h => ?_) (fun h => ?_)
  · simp -dsimp -implicitDefEqProofs (disch := omega) [go_sem, -List.getD_eq_getElem?_getD, ite_yes]
    exact fin_flat rfl (by simp at h; unfold szBk at h ⊢; split at h <;> simp_all <;> omega)
  · simp -dsimp -implicitDefEqProofs (disch := omega) [go_sem, -List.getD_eq_getElem?_getD, ite_yes]
    exact fin_flat rfl rfl
theorem toTar_A (n : Int) (l : List Bk) (hl : l.length ≤ 1048577) (c : Nat) (H : Heap) (t : Nat) (hS : Sl bkE H t l) :
    AFunC Try.prog 15 [tarV n t l.length c] H (tarV n H.length l.length l.length) (H ++ [some ⟨l.flatMap bkE, true, 87, 2⟩]) := by
  refine AFunC.of_body Try.func15 (by kernel_rfl) rfl (by kernel_rfl) (by simp [Try.ntmps15]) ?_
  have ht := hS.lt
  simp -dsimp -implicitDefEqProofs (disch := omega) [go_sem, -List.getD_eq_getElem?_getD, ite_yes, ht]
  refine ACall.of (toBkS_A l hl c _ t hS.app) ?_
  simp -dsimp -implicitDefEqProofs (disch := omega) [go_sem, -List.getD_eq_getElem?_getD, ite_yes, ht]
  refine fin_list [some 3] rfl ?_ (by simp -dsimp -implicitDefEqProofs (disch := omega) [go_sem, -List.getD_eq_getElem?_getD, ite_yes, ht])
  simp -dsimp -implicitDefEqProofs (disch := omega) [go_sem, -List.getD_eq_getElem?_getD, ite_yes]
  exact .inl ⟨rfl, bkE_flat _⟩
theorem eqTar_A (n n' : Int) (l m : List Bk) (hl : l.length ≤ 1048577) (hm : m.length ≤ 1048577) (c d : Nat) (H : Heap) (t u : Nat) (hS : Sl bkE H t l) (hU : Sl bkE H u m) :
    AFunC Try.prog 17 [tarV n t l.length c, tarV n' u m.length d] H (.bool (decide (n = n') && decide (l = m))) H := by
  refine AFunC.of_body Try.func17 (by kernel_rfl) rfl (by kernel_rfl) (by simp [Try.ntmps17]) ?_
  have ht := hS.lt
  have hu := hU.lt
  simp -dsimp -implicitDefEqProofs (disch := omega) [go_sem, -List.getD_eq_getElem?_getD, ite_yes, ht, hu]
  by_cases hn : n = n'
  · simp -dsimp -implicitDefEqProofs (disch := omega) [go_sem, -List.getD_eq_getElem?_getD, ite_yes, ht, hu, hn]
    refine ACall.of (eqBkS_A l m hl hm c d _ t u hS.app hU.app) ?_
    simp -dsimp -implicitDefEqProofs (disch := omega) [go_sem, -List.getD_eq_getElem?_getD, ite_yes]
    refine AIf.of (fun h => ?_) (fun h => ?_)
    · simp -dsimp -implicitDefEqProofs (disch := omega) [go_sem, -List.getD_eq_getElem?_getD, ite_yes]
      exact fin_flat rfl (by simp at h; simp [h, hn])
    · simp -dsimp -implicitDefEqProofs (disch := omega) [go_sem, -List.getD_eq_getElem?_getD, ite_yes]
      exact fin_flat rfl (by simp at h; simp [h, hn])
  · simp -dsimp -implicitDefEqProofs (disch := omega) [go_sem, -List.getD_eq_getElem?_getD, ite_yes, ht, hu, hn]
    exact fin_flat rfl (by simp [hn])
theorem markTar_A (n : Int) (l : List Bk) (hl : l.length ≤ 1048577) (c e : Nat) (k0 : Int) (h0 : 0 ≤ k0) (h1 : k0 ≤ 100000000) (H : Heap) (t : Nat) (hb : H.get t = some ⟨l.flatMap bkE, true, e, 2⟩) :
    AFunC Try.prog 18 [tarV n t l.length c, .int .i64 k0] H (.int .i64 (k0 + 2 * l.length)) (H.set t (some ⟨(marksBk k0 l.length).flatMap bkE, true, e, 2⟩)) := by
  refine AFunC.of_body Try.func18 (by kernel_rfl) rfl (by kernel_rfl) (by simp [Try.ntmps18]) ?_
  have ht := Heap.get_lt hb
  simp -dsimp -implicitDefEqProofs (disch := omega) [go_sem, -List.getD_eq_getElem?_getD, ite_yes, ht]
  refine ACall.of (markBkS_A l hl c e k0 h0 h1 _ t (by rw [Heap.get_append_left ht]; exact hb)) ?_
  simp -dsimp -implicitDefEqProofs (disch := omega) [go_sem, -List.getD_eq_getElem?_getD, ite_yes, ht]
  have := fin_sets (H := H) (t := t) (b := ⟨(marksBk k0 l.length).flatMap bkE, true, e, 2⟩) (L := [some ⟨[.int .i64 n, .slice (some ⟨t, 0, none⟩) l.length c], true, 39, 1⟩]) (L' := []) (v := .int .i64 (k0 + 2 * l.length)) (vf := .int .i64 (k0 + 2 * l.length)) [] rfl ht (L2.refl fun x hx => WM_flat (List.all_eq_true.1 (bkE_flat _) x hx)) trivial rfl
  rwa [List.append_nil] at this
end Go.Proofs.Ytappbdfieccfeaa
