/- The laws' helpers on lists of numbers: rBig, rInts, rSum. -/
import Derived.Test.YtappbdfieccfeaaRecNm
import Derived.Test.YtappbdfieccfeaaAm18
namespace Go.Proofs.Ytappbdfieccfeaa
open Go.Am
set_option linter.unusedVariables false
set_option linter.unusedSimpArgs false
set_option maxRecDepth 100000
set_option maxHeartbeats 1000000

theorem rBig_A (n cc : Nat) (a : Option Addr) (H : Heap) : AFunC Try.prog 19 [.slice a n cc] H (.bool (decide (65536 < (n : Int)))) H := by
  refine AFunC.of_body Try.func19 (by kernel_rfl) rfl (by kernel_rfl) (by simp [Try.ntmps19]) ?_
  simp -dsimp -implicitDefEqProofs (disch := omega) [go_sem, -List.getD_eq_getElem?_getD, ite_yes]
  exact fin_flat0 rfl (by first | rfl | simp)
theorem rInts_same (l : List Int) (hl : l.length ≤ 1048577) (c d : Nat) (H : Heap) (t u : Nat) (hS : Sl nmE H t l) (hU : Sl nmE H u l) :
    AFunC Try.prog 31 [.slice (some ⟨t, 0, none⟩) l.length c, .slice (some ⟨u, 0, none⟩) l.length d] H (.bool true) H := by
  refine AFunC.of_body Try.func31 (by kernel_rfl) rfl (by kernel_rfl) (by simp [Try.ntmps31]) ?_
  have ht := hS.lt
  have hu := hU.lt
  have cs := fun k hk => hS.one (g := fun n => Value.int .i64 n) 0 k hk
  have cu := fun k hk => hU.one (g := fun n => Value.int .i64 n) 0 k hk
  simp -dsimp -implicitDefEqProofs (disch := omega) [go_sem, -List.getD_eq_getElem?_getD, ite_yes]
  refine ALoop.intro (ι := Nat) (fun k => k ≤ l.length) (fun k => [(0, .slice (some ⟨t, 0, none⟩) l.length c), (1, .slice (some ⟨u, 0, none⟩) l.length d), (5, .int .i64 k)]) (fun _ => H) (fun k => l.length - k) 0 (by omega) ?_ ?_
  · exact weakS_same (by simp -dsimp -implicitDefEqProofs (disch := omega) [go_sem, -List.getD_eq_getElem?_getD, ite_yes, ht, hu])
  · intro k hk
    by_cases hlt : k < l.length
    · simp -dsimp -implicitDefEqProofs (disch := omega) [go_sem, -List.getD_eq_getElem?_getD, ite_yes, hlt]
      refine ADraw.quiet (by kernel_rfl) (by kernel_rfl) (by kernel_rfl) ?_
      simp -dsimp -implicitDefEqProofs (disch := omega) [go_sem, -List.getD_eq_getElem?_getD, ite_yes, hlt, cs, cu]
      refine LoopEnd.of (k + 1) (by omega) (by omega) (weakS_same (by simp -dsimp -implicitDefEqProofs (disch := omega) [go_sem, -List.getD_eq_getElem?_getD, ite_yes, ht, hu]))
    · simp -dsimp -implicitDefEqProofs (disch := omega) [go_sem, -List.getD_eq_getElem?_getD, ite_yes, hlt]
      exact fin_flat0 rfl rfl
theorem rInts_nil (d u : Nat) (H : Heap) : AFunC Try.prog 31 [.slice none 0 0, .slice (some ⟨u, 0, none⟩) 0 d] H (.bool true) H := by
  refine AFunC.of_body Try.func31 (by kernel_rfl) rfl (by kernel_rfl) (by simp [Try.ntmps31]) ?_
  simp -dsimp -implicitDefEqProofs (disch := omega) [go_sem, -List.getD_eq_getElem?_getD, ite_yes]
  refine ALoop.intro (ι := Unit) (fun _ => True) (fun _ => [(0, .slice none 0 0), (5, .int .i64 0)]) (fun _ => H) (fun _ => 0) () trivial ?_ ?_
  · exact weakS_same (by simp -dsimp -implicitDefEqProofs (disch := omega) [go_sem, -List.getD_eq_getElem?_getD, ite_yes])
  · intro _ _
    simp -dsimp -implicitDefEqProofs (disch := omega) [go_sem, -List.getD_eq_getElem?_getD, ite_yes]
    exact fin_flat0 rfl rfl
/-- the sum of the first k of a list -/
def sumTo (l : List Int) (k : Nat) : Int := (l.take k).sum
theorem sumTo_next {l : List Int} {k : Nat} (h : k < l.length) : sumTo l (k + 1) = sumTo l k + l.getD k 0 := by
  unfold sumTo
  rw [List.take_succ_eq_append_getElem h, List.sum_append]
  simp [List.getD, h]
theorem sumTo_bound {l : List Int} (h : ∀ u ∈ l, 0 ≤ u ∧ u ≤ 99999) : ∀ k, k ≤ l.length → 0 ≤ sumTo l k ∧ sumTo l k ≤ 99999 * k
  | 0, _ => by simp [sumTo]
  | k + 1, hk => by
    have ih := sumTo_bound h k (by omega)
    rw [sumTo_next (by omega)]
    have : l.getD k 0 ∈ l := by simp [List.getD, show k < l.length by omega]
    have := h _ this
    omega
theorem rSum_A (l : List Int) (hb : ∀ u ∈ l, 0 ≤ u ∧ u ≤ 99999) (hl : l.length ≤ 1048577) (c : Nat) (H : Heap) (t : Nat) (hS : Sl nmE H t l) :
    AFunC Try.prog 32 [.slice (some ⟨t, 0, none⟩) l.length c] H (.int .i64 l.sum) H := by
  refine AFunC.of_body Try.func32 (by kernel_rfl) rfl (by kernel_rfl) (by simp [Try.ntmps32]) ?_
  have ht := hS.lt
  have cs := fun k hk => hS.one (g := fun n => Value.int .i64 n) 0 k hk
  simp -dsimp -implicitDefEqProofs (disch := omega) [go_sem, -List.getD_eq_getElem?_getD, ite_yes]
  refine ALoop.intro (ι := Nat) (fun k => k ≤ l.length) (fun k => [(0, .slice (some ⟨t, 0, none⟩) l.length c), (3, .int .i64 (sumTo l k)), (4, .int .i64 k)]) (fun _ => H) (fun k => l.length - k) 0 (by omega) ?_ ?_
  · exact weakS_same (by simp -dsimp -implicitDefEqProofs (disch := omega) [go_sem, -List.getD_eq_getElem?_getD, ite_yes, ht, sumTo])
  · intro k hk
    by_cases hlt : k < l.length
    · have b1 := sumTo_bound hb k (by omega)
      have b2 := sumTo_bound hb (k + 1) (by omega)
      have e := sumTo_next hlt
      simp -dsimp -implicitDefEqProofs (disch := omega) [go_sem, -List.getD_eq_getElem?_getD, ite_yes, hlt, cs]
      refine LoopEnd.of (k + 1) (by omega) (by omega) (weakS_same (by simp -dsimp -implicitDefEqProofs (disch := omega) [go_sem, -List.getD_eq_getElem?_getD, ite_yes, ht, e]))
    · simp -dsimp -implicitDefEqProofs (disch := omega) [go_sem, -List.getD_eq_getElem?_getD, ite_yes, hlt]
      obtain rfl : k = l.length := by omega
      exact fin_flat0 rfl (by simp [sumTo])
theorem rSum_nil (H : Heap) : AFunC Try.prog 32 [.slice none 0 0] H (.int .i64 0) H := by
  refine AFunC.of_body Try.func32 (by kernel_rfl) rfl (by kernel_rfl) (by simp [Try.ntmps32]) ?_
  simp -dsimp -implicitDefEqProofs (disch := omega) [go_sem, -List.getD_eq_getElem?_getD, ite_yes]
  refine ALoop.intro (ι := Unit) (fun _ => True) (fun _ => [(0, .slice none 0 0), (3, .int .i64 0), (4, .int .i64 0)]) (fun _ => H) (fun _ => 0) () trivial ?_ ?_
  · exact weakS_same (by simp -dsimp -implicitDefEqProofs (disch := omega) [go_sem, -List.getD_eq_getElem?_getD, ite_yes])
  · intro _ _
    simp -dsimp -implicitDefEqProofs (disch := omega) [go_sem, -List.getD_eq_getElem?_getD, ite_yes]
    exact fin_flat0 rfl rfl
end Go.Proofs.Ytappbdfieccfeaa
