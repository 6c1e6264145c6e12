/- OpenCents: both sides, and the law. -/
import Derived.Test.YthnnbgggfpempaaDoorBills
namespace Go.Proofs.YthnnbgggfpempaaDoor
open Go.Am
set_option linter.unusedVariables false
set_option linter.unusedSimpArgs false
set_option maxRecDepth 100000

def openTo (l : List Bl) : Nat → Int
  | 0 => 0
  | k + 1 => openTo l k + ((l.getD k (0, 0, 0, 0)).2.2.1 - (l.getD k (0, 0, 0, 0)).2.2.2)
theorem openTo_bound {l : List Bl} (h : goodB l = true) : ∀ k, k ≤ l.length → 0 ≤ openTo l k ∧ openTo l k ≤ 1000000000 * k
  | 0, _ => by simp [openTo]
  | k + 1, hk => by
    have ih := openTo_bound h k (by omega)
    have g := (goodB_at h).2 k (by omega)
    simp only [openTo]
    omega
def openN (l : List Bl) : Int := if goodB l = true then openTo l l.length else 0
theorem iOpen_A (l : List Bl) (hl : l.length ≤ 1048577) (c : Nat) (H : Heap) (t : Nat) (hS : Sl blE H t l) :
    AFunC Tryd.prog 31 [.slice (some ⟨t, 0, none⟩) l.length c] H (.tuple #[.int .i64 (openN l), .bool (goodB l)]) H := by
  refine AFunC.of_body Tryd.func31 (by kernel_rfl) rfl (by kernel_rfl) (by simp [Tryd.ntmps31]) ?_
  have ht := hS.lt
  have cs := fun k hk => hS.cells (s := 4) (fun _ => rfl) (0, 0, 0, 0) k hk
  simp only [blE] at cs
  simp -dsimp -implicitDefEqProofs (disch := omega) [go_sem, -List.getD_eq_getElem?_getD, ite_yes]
  refine ACall.of (iValidBills_A l hl c H t hS) ?_
  cases hg : goodB l
  · simp -dsimp -implicitDefEqProofs (disch := omega) [go_sem, -List.getD_eq_getElem?_getD, ite_yes]
    exact fin_flat0 rfl (by simp [openN, hg])
  have hat := (goodB_at hg).2
  have h12 := (goodB_at hg).1
  simp -dsimp -implicitDefEqProofs (disch := omega) [go_sem, -List.getD_eq_getElem?_getD, ite_yes]
  refine ALoop.intro (ι := Nat) (fun k => k ≤ l.length) (fun k => [(4, .int .i64 (openTo l k)), (10, .slice (some ⟨t, 0, none⟩) l.length c), (11, .int .i64 l.length), (12, .int .i64 k)]) (fun _ => H) (fun k => l.length - k) 0 (by omega) ?_ ?_
  · exact weakS_same (by simp -dsimp -implicitDefEqProofs (disch := omega) [go_sem, -List.getD_eq_getElem?_getD, ite_yes, ht, openTo])
  · intro k hk
    by_cases hlt : k < l.length
    · have b1 := hat k hlt
      have b3 := openTo_bound hg k (by omega)
      have e : openTo l (k + 1) = _ := rfl
      simp only [openTo] at e
      simp -dsimp -implicitDefEqProofs (disch := omega) [go_sem, -List.getD_eq_getElem?_getD, ite_yes, hlt, cs, ht]
      exact LoopEnd.of (k + 1) (by omega) (by omega) (weakS_drop (by simp -dsimp -implicitDefEqProofs (disch := omega) [go_sem, -List.getD_eq_getElem?_getD, ite_yes, ht, openTo]))
    · simp -dsimp -implicitDefEqProofs (disch := omega) [go_sem, -List.getD_eq_getElem?_getD, ite_yes, hlt]
      obtain rfl : k = l.length := by omega
      exact fin_flat0 rfl (by simp [openN, hg])
theorem sOpen_A (l : List Bl) (hl : l.length ≤ 1048577) (c : Nat) (H : Heap) (t : Nat) (hS : Sl blE H t l) :
    AFunC Tryd.prog 33 [.slice (some ⟨t, 0, none⟩) l.length c] H (.tuple #[.int .i64 (openN l), .bool (goodB l)]) H := by
  refine AFunC.of_body Tryd.func33 (by kernel_rfl) rfl (by kernel_rfl) (by simp [Tryd.ntmps33]) ?_
  have ht := hS.lt
  have cs2 := fun k hk => hS.cell (s := 4) (fun _ => rfl) (0, 0, 0, 0) k 2 hk (by omega)
  have cs3 := fun k hk => hS.cell (s := 4) (fun _ => rfl) (0, 0, 0, 0) k 3 hk (by omega)
  simp only [blE] at cs2 cs3
  simp -dsimp -implicitDefEqProofs (disch := omega) [go_sem, -List.getD_eq_getElem?_getD, ite_yes]
  refine ACall.of (l20Good_A l hl c H t hS) ?_
  cases hg : goodB l
  · simp -dsimp -implicitDefEqProofs (disch := omega) [go_sem, -List.getD_eq_getElem?_getD, ite_yes]
    exact fin_flat0 rfl (by simp [openN, hg])
  have hat := (goodB_at hg).2
  have h12 := (goodB_at hg).1
  simp -dsimp -implicitDefEqProofs (disch := omega) [go_sem, -List.getD_eq_getElem?_getD, ite_yes]
  refine ALoop.intro (ι := Nat) (fun k => k ≤ l.length) (fun k => [(0, .slice (some ⟨t, 0, none⟩) l.length c), (4, .int .i64 (openTo l k)), (5, .int .i64 k)]) (fun _ => H) (fun k => l.length - k) 0 (by omega) ?_ ?_
  · exact weakS_same (by simp -dsimp -implicitDefEqProofs (disch := omega) [go_sem, -List.getD_eq_getElem?_getD, ite_yes, ht, openTo])
  · intro k hk
    by_cases hlt : k < l.length
    · have b1 := hat k hlt
      have b3 := openTo_bound hg k (by omega)
      simp -dsimp -implicitDefEqProofs (disch := omega) [go_sem, -List.getD_eq_getElem?_getD, ite_yes, hlt, ht]
      refine ADraw.quiet (by kernel_rfl) (by kernel_rfl) (by kernel_rfl) ?_
      simp -dsimp -implicitDefEqProofs (disch := omega) [go_sem, -List.getD_eq_getElem?_getD, ite_yes, hlt, cs2, cs3]
      exact LoopEnd.of (k + 1) (by omega) (by omega) (weakS_same (by simp -dsimp -implicitDefEqProofs (disch := omega) [go_sem, -List.getD_eq_getElem?_getD, ite_yes, ht, openTo]; omega))
    · simp -dsimp -implicitDefEqProofs (disch := omega) [go_sem, -List.getD_eq_getElem?_getD, ite_yes, hlt]
      obtain rfl : k = l.length := by omega
      exact fin_flat0 rfl (by simp [openN, hg])
end Go.Proofs.YthnnbgggfpempaaDoor
