/- OldestOpen: both sides, and the law. -/
import Derived.Test.YtappbdfieccfeaaBills
import Derived.Test.YtappbdfieccfeaaReminder
import Derived.Test.YtappbdfieccfeaaFind
namespace Go.Proofs.Ytappbdfieccfeaa
open Go.Am
set_option linter.unusedVariables false
set_option linter.unusedSimpArgs false
set_option maxRecDepth 100000

theorem indexFuncBl_A (l : List Bl) (p : Bl → Bool) (g : Nat) (cap : Array Value) (r : Int) (hr : Found (0, 0, 0, 0) p l r) (hl : l.length ≤ 1048577) (c : Nat) (H : Heap) (t : Nat) (hS : Sl blE H t l) (hc : L2 (WMP (sg H.length []) H.length) cap.toList cap.toList)
    (hp : ∀ b : Bl, AFunC Try.prog g (.agg #[.int .i64 b.1, .int .i64 b.2.1, .int .i64 b.2.2.1, .int .i64 b.2.2.2] :: cap.toList) H (.bool (p b)) H) :
    AFunC Try.prog 39 [.slice (some ⟨t, 0, none⟩) l.length c, .func (.func g) #[] cap] H (.int .i64 r) H := by
  refine AFunC.of_body Try.func39 (by kernel_rfl) rfl (by kernel_rfl) (by simp [Try.ntmps39]) ?_
  have ht := hS.lt
  have cs := fun k hk => hS.cells (s := 4) (fun _ => rfl) (0, 0, 0, 0) k hk
  simp only [blE] at cs
  simp -dsimp -implicitDefEqProofs (disch := omega) [go_sem, -List.getD_eq_getElem?_getD, ite_yes]
  refine ALoop.intro (ι := Nat) (fun k => k ≤ l.length ∧ findTo (0, 0, 0, 0) p l k) (fun k => [(0, .slice (some ⟨t, 0, none⟩) l.length c), (1, .func (.func g) #[] cap), (7, .int .i64 l.length), (8, .int .i64 k)]) (fun _ => H) (fun k => l.length - k) 0 ⟨by omega, fun i hi => by omega⟩ ?_ ?_
  · exact weakS_same (by simp -dsimp -implicitDefEqProofs (disch := omega) [go_sem, -List.getD_eq_getElem?_getD, ite_yes, ht]; simpa using hc)
  · rintro k ⟨hk, hf⟩
    by_cases hlt : k < l.length
    · simp -dsimp -implicitDefEqProofs (disch := omega) [go_sem, -List.getD_eq_getElem?_getD, ite_yes, hlt, cs]
      refine ACall.of (hp (l.getD k (0, 0, 0, 0))) ?_
      simp -dsimp -implicitDefEqProofs (disch := omega) [go_sem, -List.getD_eq_getElem?_getD, ite_yes]
      refine AIf.of (fun h => ?_) (fun h => ?_)
      · simp -dsimp -implicitDefEqProofs (disch := omega) [go_sem, -List.getD_eq_getElem?_getD, ite_yes]
        have := found_uniq hr (.yes k hlt h hf)
        exact fin_flat0 rfl (by rw [this])
      · simp -dsimp -implicitDefEqProofs (disch := omega) [go_sem, -List.getD_eq_getElem?_getD, ite_yes]
        exact LoopEnd.of (k + 1) ⟨by omega, hf.next h⟩ (by omega) (weakS_same (by simp -dsimp -implicitDefEqProofs (disch := omega) [go_sem, -List.getD_eq_getElem?_getD, ite_yes, ht]; simpa using hc))
    · simp -dsimp -implicitDefEqProofs (disch := omega) [go_sem, -List.getD_eq_getElem?_getD, ite_yes, hlt]
      obtain rfl : k = l.length := by omega
      have := found_uniq hr (.no hf)
      exact fin_flat0 rfl (by rw [this])
theorem oldF_A (r : Bl) (H : Heap) : AFunC Try.prog 54 [.agg #[.int .i64 r.1, .int .i64 r.2.1, .int .i64 r.2.2.1, .int .i64 r.2.2.2]] H (.bool (decide (r.2.2.2 < r.2.2.1))) H := by
  refine AFunC.of_body Try.func54 (by kernel_rfl) rfl (by kernel_rfl) (by simp [Try.ntmps54]) ?_
  simp -dsimp -implicitDefEqProofs (disch := omega) [go_sem, -List.getD_eq_getElem?_getD, ite_yes]
  exact fin_flat rfl rfl
def isOpenB (r : Bl) : Bool := decide (r.2.2.2 < r.2.2.1)
def oldOk (l : List Bl) (r : Int) : Bool := goodB l && decide (0 ≤ r)
def oldN (l : List Bl) (r : Int) : Int := if oldOk l r = true then (l.getD r.toNat (0, 0, 0, 0)).1 else 0
theorem iOld_A (l : List Bl) (r : Int) (hr : Found (0, 0, 0, 0) isOpenB l r) (hl : l.length ≤ 1048577) (c : Nat) (H : Heap) (t : Nat) (hS : Sl blE H t l) :
    AFunC Try.prog 25 [.slice (some ⟨t, 0, none⟩) l.length c] H (.tuple #[.int .i64 (oldN l r), .bool (oldOk l r)]) H := by
  refine AFunC.of_body Try.func25 (by kernel_rfl) rfl (by kernel_rfl) (by simp [Try.ntmps25]) ?_
  have ht := hS.lt
  have cs0 := fun k hk => hS.cell (s := 4) (fun _ => rfl) (0, 0, 0, 0) k 0 hk (by omega)
  simp only [blE, Nat.add_zero] at cs0
  simp -dsimp -implicitDefEqProofs (disch := omega) [go_sem, -List.getD_eq_getElem?_getD, ite_yes]
  refine ACall.of (indexFuncBl_A l isOpenB 54 #[] r hr hl c H t hS trivial (fun b => oldF_A b H)) ?_
  simp -dsimp -implicitDefEqProofs (disch := omega) [go_sem, -List.getD_eq_getElem?_getD, ite_yes]
  refine ACall.of (iValidBills_A l hl c H t hS) ?_
  cases hg : goodB l
  · simp -dsimp -implicitDefEqProofs (disch := omega) [go_sem, -List.getD_eq_getElem?_getD, ite_yes]
    exact fin_flat0 rfl (by simp [oldN, oldOk, hg])
  cases hr with
  | yes i h1 h2 h3 =>
    have h0 : ¬ (i : Int) < 0 := by omega
    have cs1 := cs0 i h1
    simp -dsimp -implicitDefEqProofs (disch := omega) [go_sem, -List.getD_eq_getElem?_getD, ite_yes, h0, h1, cs1]
    exact fin_flat0 rfl (by simp [oldN, oldOk, hg])
  | no h =>
    simp -dsimp -implicitDefEqProofs (disch := omega) [go_sem, -List.getD_eq_getElem?_getD, ite_yes]
    exact fin_flat0 rfl (by simp [oldN, oldOk, hg])
theorem sOld_A (l : List Bl) (r : Int) (hr : Found (0, 0, 0, 0) isOpenB l r) (hl : l.length ≤ 1048577) (c : Nat) (H : Heap) (t : Nat) (hS : Sl blE H t l) :
    AFunC Try.prog 36 [.slice (some ⟨t, 0, none⟩) l.length c] H (.tuple #[.int .i64 (oldN l r), .bool (oldOk l r)]) H := by
  refine AFunC.of_body Try.func36 (by kernel_rfl) rfl (by kernel_rfl) (by simp [Try.ntmps36]) ?_
  have ht := hS.lt
  have cs := fun k hk => hS.cells (s := 4) (fun _ => rfl) (0, 0, 0, 0) k hk
  have cs0 := fun k hk => hS.cell (s := 4) (fun _ => rfl) (0, 0, 0, 0) k 0 hk (by omega)
  simp only [blE, Nat.add_zero] at cs0 cs
  simp -dsimp -implicitDefEqProofs (disch := omega) [go_sem, -List.getD_eq_getElem?_getD, ite_yes]
  refine ACall.of (l20Good_A l hl c H t hS) ?_
  cases hg : goodB l
  · simp -dsimp -implicitDefEqProofs (disch := omega) [go_sem, -List.getD_eq_getElem?_getD, ite_yes]
    exact fin_flat0 rfl (by simp [oldN, oldOk, hg])
  simp -dsimp -implicitDefEqProofs (disch := omega) [go_sem, -List.getD_eq_getElem?_getD, ite_yes]
  refine ALoop.intro (ι := Nat) (fun k => k ≤ l.length ∧ findTo (0, 0, 0, 0) isOpenB l k) (fun k => [(0, .slice (some ⟨t, 0, none⟩) l.length c), (4, .int .i64 k)]) (fun _ => H) (fun k => l.length - k) 0 ⟨by omega, fun i hi => by omega⟩ ?_ ?_
  · exact weakS_same (by simp -dsimp -implicitDefEqProofs (disch := omega) [go_sem, -List.getD_eq_getElem?_getD, ite_yes, ht])
  · rintro k ⟨hk, hf⟩
    by_cases hlt : k < l.length
    · simp -dsimp -implicitDefEqProofs (disch := omega) [go_sem, -List.getD_eq_getElem?_getD, ite_yes, hlt, cs]
      refine ACall.of (l20Open_A (l.getD k (0, 0, 0, 0)) _) ?_
      simp -dsimp -implicitDefEqProofs (disch := omega) [go_sem, -List.getD_eq_getElem?_getD, ite_yes]
      refine AIf.of (fun h => ?_) (fun h => ?_)
      · simp -dsimp -implicitDefEqProofs (disch := omega) [go_sem, -List.getD_eq_getElem?_getD, ite_yes, hlt, cs0]
        have := found_uniq hr (.yes k hlt h hf)
        exact fin_flat0 rfl (by simp [oldN, oldOk, hg, this])
      · simp -dsimp -implicitDefEqProofs (disch := omega) [go_sem, -List.getD_eq_getElem?_getD, ite_yes]
        exact LoopEnd.of (k + 1) ⟨by omega, hf.next h⟩ (by omega) (weakS_same (by simp -dsimp -implicitDefEqProofs (disch := omega) [go_sem, -List.getD_eq_getElem?_getD, ite_yes, ht]))
    · simp -dsimp -implicitDefEqProofs (disch := omega) [go_sem, -List.getD_eq_getElem?_getD, ite_yes, hlt]
      obtain rfl : k = l.length := by omega
      have := found_uniq hr (.no hf)
      exact fin_flat0 rfl (by simp [oldN, oldOk, hg, this])
end Go.Proofs.Ytappbdfieccfeaa
