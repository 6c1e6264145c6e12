/- Bills: what the functions on bills compute. -/
import Derived.Test.YthnnbgggfpempaaDoorFacts
import Derived.Test.YthnnbgggfpempaaDoorAm11
import Derived.Test.YthnnbgggfpempaaDoorRecBl
import Derived.Test.YthnnbgggfpempaaDoorDays
namespace Go.Proofs.YthnnbgggfpempaaDoor
open Go.Am
set_option linter.unusedVariables false
set_option linter.unusedSimpArgs false
set_option maxRecDepth 100000

def isBl (b : Bl) : Bool := inB b.1 1 999 && inB b.2.1 0 3650 && inB b.2.2.1 1 1000000000 && inB b.2.2.2 0 b.2.2.1
theorem isBill_A (r : Bl) (H : Heap) : AFunC Tryd.prog 74 [.agg #[.int .i64 r.1, .int .i64 r.2.1, .int .i64 r.2.2.1, .int .i64 r.2.2.2]] H (.bool (isBl r)) H := by
  refine AFunC.of_body Tryd.func74 (by kernel_rfl) rfl (by kernel_rfl) (by simp [Tryd.ntmps74]) ?_
  simp -dsimp -implicitDefEqProofs (disch := omega) [go_sem, -List.getD_eq_getElem?_getD, ite_yes]
  refine ACall.of (inside_A _ _ _ _) ?_
  simp -dsimp -implicitDefEqProofs (disch := omega) [go_sem, -List.getD_eq_getElem?_getD, ite_yes]
  refine AIf.of (fun h1 => ?_) (fun h1 => ?_)
  · simp -dsimp -implicitDefEqProofs (disch := omega) [go_sem, -List.getD_eq_getElem?_getD, ite_yes]
    refine ACall.of (isDay_A _ _) ?_
    simp -dsimp -implicitDefEqProofs (disch := omega) [go_sem, -List.getD_eq_getElem?_getD, ite_yes]
    refine AIf.of (fun h2 => ?_) (fun h2 => ?_)
    · simp -dsimp -implicitDefEqProofs (disch := omega) [go_sem, -List.getD_eq_getElem?_getD, ite_yes]
      refine ACall.of (inside_A _ _ _ _) ?_
      simp -dsimp -implicitDefEqProofs (disch := omega) [go_sem, -List.getD_eq_getElem?_getD, ite_yes]
      refine AIf.of (fun h3 => ?_) (fun h3 => ?_)
      · simp -dsimp -implicitDefEqProofs (disch := omega) [go_sem, -List.getD_eq_getElem?_getD, ite_yes]
        refine ACall.of (inside_A _ _ _ _) ?_
        simp -dsimp -implicitDefEqProofs (disch := omega) [go_sem, -List.getD_eq_getElem?_getD, ite_yes]
        exact fin_flat rfl (by simp [isBl, h1, h2, h3])
      · simp -dsimp -implicitDefEqProofs (disch := omega) [go_sem, -List.getD_eq_getElem?_getD, ite_yes]
        exact fin_flat rfl (by simp [isBl, h1, h2, h3])
    · simp -dsimp -implicitDefEqProofs (disch := omega) [go_sem, -List.getD_eq_getElem?_getD, ite_yes]
      exact fin_flat rfl (by simp [isBl, h1, h2])
  · simp -dsimp -implicitDefEqProofs (disch := omega) [go_sem, -List.getD_eq_getElem?_getD, ite_yes]
    exact fin_flat rfl (by simp [isBl, h1])
theorem l20Cents_A (n : Int) (H : Heap) : AFunC Tryd.prog 121 [.int .i64 n] H (.bool (inB n 1 1000000000)) H := by
  refine AFunC.of_body Tryd.func121 (by kernel_rfl) rfl (by kernel_rfl) (by simp [Tryd.ntmps121]) ?_
  simp -dsimp -implicitDefEqProofs (disch := omega) [go_sem, -List.getD_eq_getElem?_getD, ite_yes]
  refine ACall.of (l1In_A _ _ _ _) ?_
  simp -dsimp -implicitDefEqProofs (disch := omega) [go_sem, -List.getD_eq_getElem?_getD, ite_yes]
  exact fin_flat0 rfl rfl
theorem l20One_A (r : Bl) (H : Heap) : AFunC Tryd.prog 76 [.agg #[.int .i64 r.1, .int .i64 r.2.1, .int .i64 r.2.2.1, .int .i64 r.2.2.2]] H (.bool (isBl r)) H := by
  refine AFunC.of_body Tryd.func76 (by kernel_rfl) rfl (by kernel_rfl) (by simp [Tryd.ntmps76]) ?_
  simp -dsimp -implicitDefEqProofs (disch := omega) [go_sem, -List.getD_eq_getElem?_getD, ite_yes]
  refine ACall.of (l1In_A _ _ _ _) ?_
  simp -dsimp -implicitDefEqProofs (disch := omega) [go_sem, -List.getD_eq_getElem?_getD, ite_yes]
  refine AIf.of (fun h1 => ?_) (fun h1 => ?_)
  · simp -dsimp -implicitDefEqProofs (disch := omega) [go_sem, -List.getD_eq_getElem?_getD, ite_yes]
    refine ACall.of (l19Day_A _ _) ?_
    simp -dsimp -implicitDefEqProofs (disch := omega) [go_sem, -List.getD_eq_getElem?_getD, ite_yes]
    refine AIf.of (fun h2 => ?_) (fun h2 => ?_)
    · simp -dsimp -implicitDefEqProofs (disch := omega) [go_sem, -List.getD_eq_getElem?_getD, ite_yes]
      refine ACall.of (l20Cents_A _ _) ?_
      simp -dsimp -implicitDefEqProofs (disch := omega) [go_sem, -List.getD_eq_getElem?_getD, ite_yes]
      refine AIf.of (fun h3 => ?_) (fun h3 => ?_)
      · simp -dsimp -implicitDefEqProofs (disch := omega) [go_sem, -List.getD_eq_getElem?_getD, ite_yes]
        refine ACall.of (l1In_A _ _ _ _) ?_
        simp -dsimp -implicitDefEqProofs (disch := omega) [go_sem, -List.getD_eq_getElem?_getD, ite_yes]
        exact fin_flat rfl (by simp [isBl, h1, h2, h3])
      · simp -dsimp -implicitDefEqProofs (disch := omega) [go_sem, -List.getD_eq_getElem?_getD, ite_yes]
        exact fin_flat rfl (by simp [isBl, h1, h2, h3])
    · simp -dsimp -implicitDefEqProofs (disch := omega) [go_sem, -List.getD_eq_getElem?_getD, ite_yes]
      exact fin_flat rfl (by simp [isBl, h1, h2])
  · simp -dsimp -implicitDefEqProofs (disch := omega) [go_sem, -List.getD_eq_getElem?_getD, ite_yes]
    exact fin_flat rfl (by simp [isBl, h1])
/-- the bills up to the k-th stand as they should -/
def goodBTo (l : List Bl) (k : Nat) : Prop := ∀ i, i < k → isBl (l.getD i (0, 0, 0, 0)) = true ∧ (0 < i → (l.getD (i - 1) (0, 0, 0, 0)).1 < (l.getD i (0, 0, 0, 0)).1 ∧ (l.getD (i - 1) (0, 0, 0, 0)).2.1 ≤ (l.getD i (0, 0, 0, 0)).2.1)
instance goodBTo_dec (l : List Bl) (k : Nat) : Decidable (goodBTo l k) := by unfold goodBTo; infer_instance
def goodB (l : List Bl) : Bool := decide (goodBTo l l.length ∧ l.length ≤ 12)
theorem goodBTo.next {l : List Bl} {k : Nat} (h : goodBTo l k) (h1 : isBl (l.getD k (0, 0, 0, 0)) = true) (h2 : 0 < k → (l.getD (k - 1) (0, 0, 0, 0)).1 < (l.getD k (0, 0, 0, 0)).1) (h3 : 0 < k → (l.getD (k - 1) (0, 0, 0, 0)).2.1 ≤ (l.getD k (0, 0, 0, 0)).2.1) : goodBTo l (k + 1) := by
  intro i hi
  rcases Nat.lt_or_ge i k with h' | h'
  · exact h i h'
  · obtain rfl : i = k := by omega
    exact ⟨h1, fun h => ⟨h2 h, h3 h⟩⟩
theorem goodB_no {l : List Bl} {k : Nat} (hk : k < l.length) (h : isBl (l.getD k (0, 0, 0, 0)) = false ∨ 0 < k ∧ ((l.getD k (0, 0, 0, 0)).1 ≤ (l.getD (k - 1) (0, 0, 0, 0)).1 ∨ (l.getD k (0, 0, 0, 0)).2.1 < (l.getD (k - 1) (0, 0, 0, 0)).2.1)) : goodB l = false := by
  unfold goodB
  refine decide_eq_false fun h' => ?_
  have := h'.1 k hk
  rcases h with h | h
  · rw [this.1] at h; cases h
  · have := this.2 h.1; omega
theorem goodB_end {l : List Bl} (h : goodBTo l l.length) : goodB l = decide ((l.length : Int) ≤ 12) := by
  unfold goodB
  by_cases h' : l.length ≤ 12
  · rw [decide_eq_true ⟨h, h'⟩, decide_eq_true (by omega)]
  · rw [decide_eq_false (fun h => h' h.2), decide_eq_false (by omega)]
theorem goodB_at {l : List Bl} (h : goodB l = true) : l.length ≤ 12 ∧ ∀ i, i < l.length → 1 ≤ (l.getD i (0, 0, 0, 0)).1 ∧ (l.getD i (0, 0, 0, 0)).1 ≤ 999 ∧ 0 ≤ (l.getD i (0, 0, 0, 0)).2.1 ∧ (l.getD i (0, 0, 0, 0)).2.1 ≤ 3650 ∧ 1 ≤ (l.getD i (0, 0, 0, 0)).2.2.1 ∧ (l.getD i (0, 0, 0, 0)).2.2.1 ≤ 1000000000 ∧ 0 ≤ (l.getD i (0, 0, 0, 0)).2.2.2 ∧ (l.getD i (0, 0, 0, 0)).2.2.2 ≤ (l.getD i (0, 0, 0, 0)).2.2.1 ∧ (0 < i → (l.getD (i - 1) (0, 0, 0, 0)).1 < (l.getD i (0, 0, 0, 0)).1) := by
  unfold goodB at h
  have h := of_decide_eq_true h
  refine ⟨h.2, fun i hi => ?_⟩
  have := h.1 i hi
  simp only [isBl, inB, Bool.and_eq_true, decide_eq_true_eq] at this
  omega
theorem l20Good_A (l : List Bl) (hl : l.length ≤ 1048577) (c : Nat) (H : Heap) (t : Nat) (hS : Sl blE H t l) :
    AFunC Tryd.prog 86 [.slice (some ⟨t, 0, none⟩) l.length c] H (.bool (goodB l)) H := by
  refine AFunC.of_body Tryd.func86 (by kernel_rfl) rfl (by kernel_rfl) (by simp [Tryd.ntmps86]) ?_
  have ht := hS.lt
  have cs := fun k hk => hS.cells (s := 4) (fun _ => rfl) (0, 0, 0, 0) k hk
  have cs0 := fun k hk => hS.cell (s := 4) (fun _ => rfl) (0, 0, 0, 0) k 0 hk (by omega)
  have cs1 := fun k hk => hS.cell (s := 4) (fun _ => rfl) (0, 0, 0, 0) k 1 hk (by omega)
  simp only [Nat.add_zero, blE] at cs0 cs1 cs
  simp -dsimp -implicitDefEqProofs (disch := omega) [go_sem, -List.getD_eq_getElem?_getD, ite_yes]
  refine ALoop.intro (ι := Nat) (fun k => k ≤ l.length ∧ goodBTo l k) (fun k => [(0, .slice (some ⟨t, 0, none⟩) l.length c), (3, .int .i64 k)]) (fun _ => H) (fun k => l.length - k) 0 ⟨by omega, fun i hi => by omega⟩ ?_ ?_
  · exact weakS_same (by simp -dsimp -implicitDefEqProofs (disch := omega) [go_sem, -List.getD_eq_getElem?_getD, ite_yes, ht])
  · rintro k ⟨hk, hg⟩
    by_cases hlt : k < l.length
    · simp -dsimp -implicitDefEqProofs (disch := omega) [go_sem, -List.getD_eq_getElem?_getD, ite_yes, hlt]
      refine ADraw.quiet (by kernel_rfl) (by kernel_rfl) (by kernel_rfl) ?_
      simp -dsimp -implicitDefEqProofs (disch := omega) [go_sem, -List.getD_eq_getElem?_getD, ite_yes, hlt, cs, cs0, cs1]
      refine ACallQ.of (l20One_A (l.getD k (0, 0, 0, 0)) _) rfl ?_
      simp -dsimp -implicitDefEqProofs (disch := omega) [go_sem, -List.getD_eq_getElem?_getD, ite_yes, hlt, cs, cs0, cs1]
      refine AIf.of (fun h1 => ?_) (fun h1 => ?_)
      · simp -dsimp -implicitDefEqProofs (disch := omega) [go_sem, -List.getD_eq_getElem?_getD, ite_yes, hlt, cs, cs0, cs1]
        exact fin_flat0 rfl (by rw [goodB_no hlt (.inl (by simpa using h1))])
      · simp -dsimp -implicitDefEqProofs (disch := omega) [go_sem, -List.getD_eq_getElem?_getD, ite_yes, hlt, cs, cs0, cs1]
        refine AIf.of (fun h2 => ?_) (fun h2 => ?_)
        · simp at h2
          simp -dsimp -implicitDefEqProofs (disch := omega) [go_sem, -List.getD_eq_getElem?_getD, ite_yes, ite_yes, hlt, cs, cs0, cs1]
          refine AIf.of (fun h3 => ?_) (fun h3 => ?_)
          · simp -dsimp -implicitDefEqProofs (disch := omega) [go_sem, -List.getD_eq_getElem?_getD, ite_yes, hlt, cs, cs0, cs1]
            exact fin_flat0 rfl (by rw [goodB_no hlt (.inr ⟨h2, .inl (by simpa using h3)⟩)])
          · simp -dsimp -implicitDefEqProofs (disch := omega) [go_sem, -List.getD_eq_getElem?_getD, ite_yes, hlt, cs, cs0, cs1]
            refine AIf.of (fun h4 => ?_) (fun h4 => ?_)
            · simp -dsimp -implicitDefEqProofs (disch := omega) [go_sem, -List.getD_eq_getElem?_getD, ite_yes, hlt, cs, cs0, cs1]
              exact fin_flat0 rfl (by rw [goodB_no hlt (.inr ⟨h2, .inr (by simpa using h4)⟩)])
            · simp -dsimp -implicitDefEqProofs (disch := omega) [go_sem, -List.getD_eq_getElem?_getD, ite_yes, hlt, cs, cs0, cs1]
              exact LoopEnd.of (k + 1) ⟨by omega, hg.next (by simpa using h1) (fun _ => by simpa using h3) (fun _ => by simpa using h4)⟩ (by omega) (weakS_same (by simp -dsimp -implicitDefEqProofs (disch := omega) [go_sem, -List.getD_eq_getElem?_getD, ite_yes, ht]))
        · simp at h2
          simp -dsimp -implicitDefEqProofs (disch := omega) [go_sem, -List.getD_eq_getElem?_getD, ite_yes, hlt, cs, cs0, cs1]
          exact LoopEnd.of (k + 1) ⟨by omega, hg.next (by simpa using h1) (fun h => by omega) (fun h => by omega)⟩ (by omega) (weakS_same (by simp -dsimp -implicitDefEqProofs (disch := omega) [go_sem, -List.getD_eq_getElem?_getD, ite_yes, ht]))
    · simp -dsimp -implicitDefEqProofs (disch := omega) [go_sem, -List.getD_eq_getElem?_getD, ite_yes, hlt]
      obtain rfl : k = l.length := by omega
      exact fin_flat0 rfl (by rw [goodB_end hg])
theorem iValidBills_A (l : List Bl) (hl : l.length ≤ 1048577) (c : Nat) (H : Heap) (t : Nat) (hS : Sl blE H t l) :
    AFunC Tryd.prog 34 [.slice (some ⟨t, 0, none⟩) l.length c] H (.bool (goodB l)) H := by
  refine AFunC.of_body Tryd.func34 (by kernel_rfl) rfl (by kernel_rfl) (by simp [Tryd.ntmps34]) ?_
  have ht := hS.lt
  have cs := fun k hk => hS.cells (s := 4) (fun _ => rfl) (0, 0, 0, 0) k hk
  have cs0 := fun k hk => hS.cell (s := 4) (fun _ => rfl) (0, 0, 0, 0) k 0 hk (by omega)
  have cs1 := fun k hk => hS.cell (s := 4) (fun _ => rfl) (0, 0, 0, 0) k 1 hk (by omega)
  simp only [Nat.add_zero, blE] at cs0 cs1 cs
  simp -dsimp -implicitDefEqProofs (disch := omega) [go_sem, -List.getD_eq_getElem?_getD, ite_yes]
  refine ALoop.intro (ι := Nat) (fun k => k ≤ l.length ∧ goodBTo l k) (fun k => [(0, .slice (some ⟨t, 0, none⟩) l.length c), (5, .slice (some ⟨t, 0, none⟩) l.length c), (6, .int .i64 l.length), (7, .int .i64 k)]) (fun _ => H) (fun k => l.length - k) 0 ⟨by omega, fun i hi => by omega⟩ ?_ ?_
  · exact weakS_same (by simp -dsimp -implicitDefEqProofs (disch := omega) [go_sem, -List.getD_eq_getElem?_getD, ite_yes, ht])
  · rintro k ⟨hk, hg⟩
    by_cases hlt : k < l.length
    · simp -dsimp -implicitDefEqProofs (disch := omega) [go_sem, -List.getD_eq_getElem?_getD, ite_yes, hlt, cs, ht]
      refine ADraw.quiet (by kernel_rfl) (by kernel_rfl) (by kernel_rfl) ?_
      simp -dsimp -implicitDefEqProofs (disch := omega) [go_sem, -List.getD_eq_getElem?_getD, ite_yes, hlt, cs, cs0, cs1, ht]
      refine ACallQ.of (isBill_A (l.getD k (0, 0, 0, 0)) _) rfl ?_
      simp -dsimp -implicitDefEqProofs (disch := omega) [go_sem, -List.getD_eq_getElem?_getD, ite_yes, hlt, cs, cs0, cs1, ht]
      refine AIf.of (fun h1 => ?_) (fun h1 => ?_)
      · simp -dsimp -implicitDefEqProofs (disch := omega) [go_sem, -List.getD_eq_getElem?_getD, ite_yes, hlt, cs, cs0, cs1]
        exact fin_flat rfl (by rw [goodB_no hlt (.inl (by simpa using h1))])
      · simp -dsimp -implicitDefEqProofs (disch := omega) [go_sem, -List.getD_eq_getElem?_getD, ite_yes, hlt, cs, cs0, cs1]
        refine AIf.of (fun h2 => ?_) (fun h2 => ?_)
        · simp at h2
          simp -dsimp -implicitDefEqProofs (disch := omega) [go_sem, -List.getD_eq_getElem?_getD, ite_yes, hlt, cs, cs0, cs1, ht]
          refine AIf.of (fun h3 => ?_) (fun h3 => ?_)
          · simp -dsimp -implicitDefEqProofs (disch := omega) [go_sem, -List.getD_eq_getElem?_getD, ite_yes, hlt, cs, cs0, cs1]
            exact fin_flat rfl (by rw [goodB_no hlt (.inr ⟨h2, .inl (by simpa using h3)⟩)])
          · simp -dsimp -implicitDefEqProofs (disch := omega) [go_sem, -List.getD_eq_getElem?_getD, ite_yes, hlt, cs, cs0, cs1]
            refine AIf.of (fun h4 => ?_) (fun h4 => ?_)
            · simp -dsimp -implicitDefEqProofs (disch := omega) [go_sem, -List.getD_eq_getElem?_getD, ite_yes, hlt, cs, cs0, cs1]
              exact fin_flat rfl (by rw [goodB_no hlt (.inr ⟨h2, .inr (by simpa using h4)⟩)])
            · simp -dsimp -implicitDefEqProofs (disch := omega) [go_sem, -List.getD_eq_getElem?_getD, ite_yes, hlt, cs, cs0, cs1]
              exact LoopEnd.of (k + 1) ⟨by omega, hg.next (by simpa using h1) (fun _ => by simpa using h3) (fun _ => by simpa using h4)⟩ (by omega) (weakS_drop (by simp -dsimp -implicitDefEqProofs (disch := omega) [go_sem, -List.getD_eq_getElem?_getD, ite_yes, ht]))
        · simp at h2
          simp -dsimp -implicitDefEqProofs (disch := omega) [go_sem, -List.getD_eq_getElem?_getD, ite_yes, hlt, cs, cs0, cs1]
          exact LoopEnd.of (k + 1) ⟨by omega, hg.next (by simpa using h1) (fun h => by omega) (fun h => by omega)⟩ (by omega) (weakS_drop (by simp -dsimp -implicitDefEqProofs (disch := omega) [go_sem, -List.getD_eq_getElem?_getD, ite_yes, ht]))
    · simp -dsimp -implicitDefEqProofs (disch := omega) [go_sem, -List.getD_eq_getElem?_getD, ite_yes, hlt]
      obtain rfl : k = l.length := by omega
      exact fin_flat0 rfl (by rw [goodB_end hg])
end Go.Proofs.YthnnbgggfpempaaDoor
