/- Costs: both sides. -/
import Derived.Test.YtappbdfieccfeaaTarWalk
namespace Go.Proofs.Ytappbdfieccfeaa
open Go.Am
set_option linter.unusedVariables false
set_option linter.unusedSimpArgs false
set_option maxRecDepth 100000
set_option maxHeartbeats 2000000

def costOk (n : Int) (l : List Bk) (v : Int) : Bool := goodK n l && inB v 0 100000
def costV (n : Int) (l : List Bk) (v : Int) : Int := if costOk n l v = true then costK n l v else 0
theorem costOk_at {n : Int} {l : List Bk} {v : Int} (h : costOk n l v = true) : TarAt n l ∧ 0 ≤ v ∧ v ≤ 100000 := by
  simp only [costOk, inB, Bool.and_eq_true, decide_eq_true_eq] at h
  exact ⟨TarAt.of h.1, h.2⟩
theorem sumIntsK_A (l : List Int) (hb : ∀ u ∈ l, 0 ≤ u ∧ u ≤ 100000000) (hl : l.length ≤ 1048577) (c : Nat) (H : Heap) (t : Nat) (hS : Sl nmE H t l) :
    AFunC Try.prog 74 [.slice (some ⟨t, 0, none⟩) l.length c] H (.int .i64 l.sum) H := by
  refine AFunC.of_body Try.func74 (by kernel_rfl) rfl (by kernel_rfl) (by simp [Try.ntmps74]) ?_
  have ht := hS.lt
  have cs := fun k hk => hS.one (g := fun n => Value.int .i64 n) 0 k hk
  simp -dsimp -implicitDefEqProofs (disch := omega) [go_sem, -List.getD_eq_getElem?_getD, ite_yes]
  refine ALoop.intro (ι := Nat) (fun k => k ≤ l.length) (fun k => [(3, .int .i64 (sumK l k)), (6, .slice (some ⟨t, 0, none⟩) l.length c), (7, .int .i64 l.length), (8, .int .i64 k)]) (fun _ => H) (fun k => l.length - k) 0 (by omega) ?_ ?_
  · exact weakS_same (by simp -dsimp -implicitDefEqProofs (disch := omega) [go_sem, -List.getD_eq_getElem?_getD, ite_yes, ht, sumK])
  · intro k hk
    by_cases hlt : k < l.length
    · have b1 := sumK_bound hb k (by omega)
      have b2 := sumK_bound hb (k + 1) (by omega)
      have e := sumK_next hlt
      simp -dsimp -implicitDefEqProofs (disch := omega) [go_sem, -List.getD_eq_getElem?_getD, ite_yes, hlt, cs]
      refine LoopEnd.of (k + 1) (by omega) (by omega) (weakS_same (by simp -dsimp -implicitDefEqProofs (disch := omega) [go_sem, -List.getD_eq_getElem?_getD, ite_yes, ht, e]))
    · simp -dsimp -implicitDefEqProofs (disch := omega) [go_sem, -List.getD_eq_getElem?_getD, ite_yes, hlt]
      obtain rfl : k = l.length := by omega
      exact fin_flat0 rfl (by simp [sumK])
theorem costOf_A (n : Int) (l : List Bk) (v : Int) (h : costOk n l v = true) (c : Nat) (H : Heap) (t : Nat) (hS : Sl bkE H t l) :
    AFunC Try.prog 62 [tarV n t l.length c, .int .i64 v] H (.int .i64 (costK n l v)) H := by
  refine AFunC.of_body Try.func62 (by kernel_rfl) rfl (by kernel_rfl) (by simp [Try.ntmps62]) ?_
  have ht := hS.lt
  obtain ⟨hT, hv⟩ := costOk_at h
  have l5 := hT.f_len
  have cl := cutK_length n l v l.length
  have S := fun K t hS => sumIntsK_A (cutK n l v l.length) (cutK_bound hT hv l.length (Nat.le_refl _)) (by omega) (l.length + 1) K t hS
  simp only [cl] at S
  simp -dsimp -implicitDefEqProofs (disch := omega) [go_sem, -List.getD_eq_getElem?_getD, ite_yes, ht]
  refine ACall.of (splitCost_A n l v hT hv c _ t hS.app) ?_
  simp -dsimp -implicitDefEqProofs (disch := omega) [go_sem, -List.getD_eq_getElem?_getD, ite_yes, ht]
  refine ACall.of (S _ _ (Sl.nth 1 rfl rfl)) ?_
  simp -dsimp -implicitDefEqProofs (disch := omega) [go_sem, -List.getD_eq_getElem?_getD, ite_yes]
  exact fin_flat rfl rfl
theorem l14Cost_A (n : Int) (l : List Bk) (v : Int) (h : costOk n l v = true) (c : Nat) (H : Heap) (t : Nat) (hS : Sl bkE H t l) :
    AFunC Try.prog 68 [tarV n t l.length c, .int .i64 v] H (.int .i64 (costK n l v)) H := by
  refine AFunC.of_body Try.func68 (by kernel_rfl) rfl (by kernel_rfl) (by simp [Try.ntmps68]) ?_
  have ht := hS.lt
  obtain ⟨hT, hv⟩ := costOk_at h
  have l5 := hT.f_len
  have cl := cutK_length n l v l.length
  have cb := cutK_bound hT hv l.length (Nat.le_refl _)
  simp -dsimp -implicitDefEqProofs (disch := omega) [go_sem, -List.getD_eq_getElem?_getD, ite_yes, ht]
  refine ACall.of (l14Split_A n l v hT hv c _ t hS.app) ?_
  have ce : costK n l v = (cutK n l v l.length).sum := rfl
  generalize cutK n l v l.length = L at cl cb ce ⊢
  have lf := nmE_length L
  simp -dsimp -implicitDefEqProofs (disch := omega) [go_sem, -List.getD_eq_getElem?_getD, ite_yes, ht]
  refine ALoop.intro (ι := Nat) (fun k => k ≤ l.length + 1) (fun k => [(5, .int .i64 (sumK L k)), (6, .slice (some ⟨H.length, 0, none⟩) (l.length + 1) (l.length + 1)), (7, .int .i64 k)]) (fun _ => H ++ [some ⟨L.flatMap nmE, true, 3, 1⟩]) (fun k => l.length + 1 - k) 0 (by omega) ?_ ?_
  · refine weakS_mk [some 1] rfl ?_ (by simp -dsimp -implicitDefEqProofs (disch := omega) [go_sem, -List.getD_eq_getElem?_getD, ite_yes, ht, sumK])
    simp -dsimp -implicitDefEqProofs (disch := omega) [go_sem, -List.getD_eq_getElem?_getD, ite_yes]
    exact .inl ⟨rfl, nmE_flat _⟩
  · intro k hk
    by_cases hlt : k < l.length + 1
    · have b1 := sumK_bound cb k (by omega)
      have b2 := sumK_bound cb (k + 1) (by omega)
      have e := sumK_next (l := L) (k := k) (by omega)
      have ck := flatMap_cells nmE 1 (fun _ => rfl) 0 L k (by omega)
      rw [Nat.mul_one] at ck
      simp only [nmE] at ck
      have hk2 : k < L.length := by omega
      have hlt' : (k : Int) < (l.length : Int) + 1 := by omega
      simp -dsimp -implicitDefEqProofs (disch := omega) [go_sem, -List.getD_eq_getElem?_getD, ite_yes, hlt, hlt', ck, lf, cl]
      refine LoopEnd.of (k + 1) (by omega) (by omega) (weakS_mk [some 0] rfl ?_ (by simp -dsimp -implicitDefEqProofs (disch := omega) [go_sem, -List.getD_eq_getElem?_getD, ite_yes, ht, e]))
      simp -dsimp -implicitDefEqProofs (disch := omega) [go_sem, -List.getD_eq_getElem?_getD, ite_yes]
      exact .inl ⟨rfl, nmE_flat _⟩
    · have hlt' : ¬ (k : Int) < (l.length : Int) + 1 := by omega
      obtain rfl : k = l.length + 1 := by omega
      simp -dsimp -implicitDefEqProofs (disch := omega) [go_sem, -List.getD_eq_getElem?_getD, ite_yes, hlt, hlt']
      exact fin_flat rfl (by rw [← cl, sumK_end, ce])
theorem iCostOf_A (n : Int) (l : List Bk) (v : Int) (hl : l.length ≤ 1048577) (c : Nat) (H : Heap) (t : Nat) (hS : Sl bkE H t l) :
    AFunC Try.prog 34 [tarV n t l.length c, .int .i64 v] H (.tuple #[.int .i64 (costV n l v), .bool (costOk n l v)]) H := by
  refine AFunC.of_body Try.func34 (by kernel_rfl) rfl (by kernel_rfl) (by simp [Try.ntmps34]) ?_
  have ht := hS.lt
  simp -dsimp -implicitDefEqProofs (disch := omega) [go_sem, -List.getD_eq_getElem?_getD, ite_yes, ht]
  refine ACall.of (iValidTariff_A n l hl c _ t hS.app) ?_
  cases h1 : goodK n l
  · simp -dsimp -implicitDefEqProofs (disch := omega) [go_sem, -List.getD_eq_getElem?_getD, ite_yes, ht]
    exact fin_flat rfl (by simp [costV, costOk, h1])
  simp -dsimp -implicitDefEqProofs (disch := omega) [go_sem, -List.getD_eq_getElem?_getD, ite_yes, ht]
  refine ACall.of (isVolume_A _ _) ?_
  cases h2 : inB v 0 100000
  · simp -dsimp -implicitDefEqProofs (disch := omega) [go_sem, -List.getD_eq_getElem?_getD, ite_yes, ht]
    exact fin_flat rfl (by simp [costV, costOk, h2])
  have h : costOk n l v = true := by simp [costOk, h1, h2]
  simp -dsimp -implicitDefEqProofs (disch := omega) [go_sem, -List.getD_eq_getElem?_getD, ite_yes, ht]
  refine ACall.of (costOf_A n l v h c _ t hS.app) ?_
  simp -dsimp -implicitDefEqProofs (disch := omega) [go_sem, -List.getD_eq_getElem?_getD, ite_yes, ht]
  exact fin_flat rfl (by simp [costV, h])
theorem sCostOf_A (n : Int) (l : List Bk) (v : Int) (hl : l.length ≤ 1048577) (c : Nat) (H : Heap) (t : Nat) (hS : Sl bkE H t l) :
    AFunC Try.prog 44 [tarV n t l.length c, .int .i64 v] H (.tuple #[.int .i64 (costV n l v), .bool (costOk n l v)]) H := by
  refine AFunC.of_body Try.func44 (by kernel_rfl) rfl (by kernel_rfl) (by simp [Try.ntmps44]) ?_
  have ht := hS.lt
  simp -dsimp -implicitDefEqProofs (disch := omega) [go_sem, -List.getD_eq_getElem?_getD, ite_yes, ht]
  refine ACall.of (l14Good_A n l hl c _ t hS.app) ?_
  cases h1 : goodK n l
  · simp -dsimp -implicitDefEqProofs (disch := omega) [go_sem, -List.getD_eq_getElem?_getD, ite_yes, ht]
    exact fin_flat rfl (by simp [costV, costOk, h1])
  simp -dsimp -implicitDefEqProofs (disch := omega) [go_sem, -List.getD_eq_getElem?_getD, ite_yes, ht]
  refine ACall.of (l14Volume_A _ _) ?_
  cases h2 : inB v 0 100000
  · simp -dsimp -implicitDefEqProofs (disch := omega) [go_sem, -List.getD_eq_getElem?_getD, ite_yes, ht]
    exact fin_flat rfl (by simp [costV, costOk, h2])
  have h : costOk n l v = true := by simp [costOk, h1, h2]
  simp -dsimp -implicitDefEqProofs (disch := omega) [go_sem, -List.getD_eq_getElem?_getD, ite_yes, ht]
  refine ACall.of (l14Cost_A n l v h c _ t hS.app) ?_
  simp -dsimp -implicitDefEqProofs (disch := omega) [go_sem, -List.getD_eq_getElem?_getD, ite_yes, ht]
  exact fin_flat rfl (by simp [costV, h])
end Go.Proofs.Ytappbdfieccfeaa
