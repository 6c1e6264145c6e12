/- Meters: what the functions on readings compute. -/
import Derived.Test.YthnnbgggfpempaaDoorFacts
import Derived.Test.YthnnbgggfpempaaDoorAm11
import Derived.Test.YthnnbgggfpempaaDoorRecRd
import Derived.Test.YthnnbgggfpempaaDoorDays
namespace Go.Proofs.YthnnbgggfpempaaDoor
open Go.Am
set_option linter.unusedVariables false
set_option linter.unusedSimpArgs false
set_option maxRecDepth 100000

def isRd (r : Rd) : Bool := inB r.1 0 3650 && inB r.2 0 99999
theorem isReading_A (r : Rd) (H : Heap) : AFunC Tryd.prog 55 [.agg #[.int .i64 r.1, .int .i64 r.2]] H (.bool (isRd r)) H := by
  refine AFunC.of_body Tryd.func55 (by kernel_rfl) rfl (by kernel_rfl) (by simp [Tryd.ntmps55]) ?_
  simp -dsimp -implicitDefEqProofs (disch := omega) [go_sem, -List.getD_eq_getElem?_getD, ite_yes]
  refine ACall.of (isDay_A _ _) ?_
  simp -dsimp -implicitDefEqProofs (disch := omega) [go_sem, -List.getD_eq_getElem?_getD, ite_yes]
  refine AIf.of (fun h => ?_) (fun h => ?_)
  · simp -dsimp -implicitDefEqProofs (disch := omega) [go_sem, -List.getD_eq_getElem?_getD, ite_yes]
    refine ACall.of (inside_A _ _ _ _) ?_
    simp -dsimp -implicitDefEqProofs (disch := omega) [go_sem, -List.getD_eq_getElem?_getD, ite_yes]
    exact fin_flat rfl (by simp [isRd, h])
  · simp -dsimp -implicitDefEqProofs (disch := omega) [go_sem, -List.getD_eq_getElem?_getD, ite_yes]
    exact fin_flat rfl (by simp [isRd, h])
theorem l19One_A (r : Rd) (H : Heap) : AFunC Tryd.prog 57 [.agg #[.int .i64 r.1, .int .i64 r.2]] H (.bool (isRd r)) H := by
  refine AFunC.of_body Tryd.func57 (by kernel_rfl) rfl (by kernel_rfl) (by simp [Tryd.ntmps57]) ?_
  simp -dsimp -implicitDefEqProofs (disch := omega) [go_sem, -List.getD_eq_getElem?_getD, ite_yes]
  refine ACall.of (l19Day_A _ _) ?_
  simp -dsimp -implicitDefEqProofs (disch := omega) [go_sem, -List.getD_eq_getElem?_getD, ite_yes]
  refine AIf.of (fun h => ?_) (fun h => ?_)
  · simp -dsimp -implicitDefEqProofs (disch := omega) [go_sem, -List.getD_eq_getElem?_getD, ite_yes]
    refine ACall.of (l1In_A _ _ _ _) ?_
    simp -dsimp -implicitDefEqProofs (disch := omega) [go_sem, -List.getD_eq_getElem?_getD, ite_yes]
    exact fin_flat rfl (by simp [isRd, h])
  · simp -dsimp -implicitDefEqProofs (disch := omega) [go_sem, -List.getD_eq_getElem?_getD, ite_yes]
    exact fin_flat rfl (by simp [isRd, h])
/-- the readings up to the k-th stand as they should -/
def goodTo (l : List Rd) (k : Nat) : Prop := ∀ i, i < k → isRd (l.getD i (0, 0)) = true ∧ (0 < i → (l.getD (i - 1) (0, 0)).1 < (l.getD i (0, 0)).1)
instance goodTo_dec (l : List Rd) (k : Nat) : Decidable (goodTo l k) := by unfold goodTo; infer_instance
def good (l : List Rd) : Bool := decide (goodTo l l.length ∧ l.length ≤ 12)
theorem goodTo.next {l : List Rd} {k : Nat} (h : goodTo l k) (h1 : isRd (l.getD k (0, 0)) = true) (h2 : 0 < k → (l.getD (k - 1) (0, 0)).1 < (l.getD k (0, 0)).1) : goodTo l (k + 1) := by
  intro i hi
  rcases Nat.lt_or_ge i k with h' | h'
  · exact h i h'
  · obtain rfl : i = k := by omega
    exact ⟨h1, h2⟩
theorem good_no {l : List Rd} {k : Nat} (hk : k < l.length) (h : isRd (l.getD k (0, 0)) = false ∨ 0 < k ∧ (l.getD k (0, 0)).1 ≤ (l.getD (k - 1) (0, 0)).1) : good l = false := by
  unfold good
  refine decide_eq_false fun h' => ?_
  have := h'.1 k hk
  rcases h with h | h
  · rw [this.1] at h; cases h
  · have := this.2 h.1; omega
theorem good_end {l : List Rd} (h : goodTo l l.length) : good l = decide ((l.length : Int) ≤ 12) := by
  unfold good
  by_cases h' : l.length ≤ 12
  · rw [decide_eq_true ⟨h, h'⟩, decide_eq_true (by omega)]
  · rw [decide_eq_false (fun h => h' h.2), decide_eq_false (by omega)]
theorem good_at {l : List Rd} (h : good l = true) : l.length ≤ 12 ∧ ∀ i, i < l.length → 0 ≤ (l.getD i (0, 0)).1 ∧ (l.getD i (0, 0)).1 ≤ 3650 ∧ 0 ≤ (l.getD i (0, 0)).2 ∧ (l.getD i (0, 0)).2 ≤ 99999 ∧ (0 < i → (l.getD (i - 1) (0, 0)).1 < (l.getD i (0, 0)).1) := by
  unfold good at h
  have h := of_decide_eq_true h
  refine ⟨h.2, fun i hi => ?_⟩
  have := h.1 i hi
  simp only [isRd, inB, Bool.and_eq_true, decide_eq_true_eq] at this
  omega
theorem l19Good_A (l : List Rd) (hl : l.length ≤ 1048577) (c : Nat) (H : Heap) (t : Nat) (hS : Sl rdE H t l) :
    AFunC Tryd.prog 69 [.slice (some ⟨t, 0, none⟩) l.length c] H (.bool (good l)) H := by
  refine AFunC.of_body Tryd.func69 (by kernel_rfl) rfl (by kernel_rfl) (by simp [Tryd.ntmps69]) ?_
  have ht := hS.lt
  have cs := fun k hk => hS.cells (s := 2) (fun _ => rfl) (0, 0) k hk
  have cs0 := fun k hk => hS.cell (s := 2) (fun _ => rfl) (0, 0) k 0 hk (by omega)
  simp only [Nat.add_zero, rdE] at cs0 cs
  simp -dsimp -implicitDefEqProofs (disch := omega) [go_sem, -List.getD_eq_getElem?_getD, ite_yes]
  refine ALoop.intro (ι := Nat) (fun k => k ≤ l.length ∧ goodTo l k) (fun k => [(0, .slice (some ⟨t, 0, none⟩) l.length c), (3, .int .i64 k)]) (fun _ => H) (fun k => l.length - k) 0 ⟨by omega, fun i hi => by omega⟩ ?_ ?_
  · exact weakS_same (by simp -dsimp -implicitDefEqProofs (disch := omega) [go_sem, -List.getD_eq_getElem?_getD, ite_yes, ht])
  · rintro k ⟨hk, hg⟩
    by_cases hlt : k < l.length
    · simp -dsimp -implicitDefEqProofs (disch := omega) [go_sem, -List.getD_eq_getElem?_getD, ite_yes, hlt]
      refine ADraw.quiet (by kernel_rfl) (by kernel_rfl) (by kernel_rfl) ?_
      simp -dsimp -implicitDefEqProofs (disch := omega) [go_sem, -List.getD_eq_getElem?_getD, ite_yes, hlt, cs, cs0]
      refine ACallQ.of (l19One_A (l.getD k (0, 0)) _) rfl ?_
      simp -dsimp -implicitDefEqProofs (disch := omega) [go_sem, -List.getD_eq_getElem?_getD, ite_yes, hlt, cs, cs0]
      refine AIf.of (fun h1 => ?_) (fun h1 => ?_)
      · simp -dsimp -implicitDefEqProofs (disch := omega) [go_sem, -List.getD_eq_getElem?_getD, ite_yes, hlt, cs, cs0]
        exact fin_flat0 rfl (by rw [good_no hlt (.inl (by simpa using h1))])
      · simp -dsimp -implicitDefEqProofs (disch := omega) [go_sem, -List.getD_eq_getElem?_getD, ite_yes, hlt, cs, cs0]
        refine AIf.of (fun h2 => ?_) (fun h2 => ?_)
        · simp at h2
          simp -dsimp -implicitDefEqProofs (disch := omega) [go_sem, -List.getD_eq_getElem?_getD, ite_yes, ite_yes, hlt, cs, cs0]
          refine AIf.of (fun h3 => ?_) (fun h3 => ?_)
          · simp -dsimp -implicitDefEqProofs (disch := omega) [go_sem, -List.getD_eq_getElem?_getD, ite_yes, hlt, cs, cs0]
            exact fin_flat0 rfl (by rw [good_no hlt (.inr ⟨h2, by simpa using h3⟩)])
          · simp -dsimp -implicitDefEqProofs (disch := omega) [go_sem, -List.getD_eq_getElem?_getD, ite_yes, hlt, cs, cs0]
            exact LoopEnd.of (k + 1) ⟨by omega, hg.next (by simpa using h1) fun _ => by simpa using h3⟩ (by omega) (weakS_same (by simp -dsimp -implicitDefEqProofs (disch := omega) [go_sem, -List.getD_eq_getElem?_getD, ite_yes, ht]))
        · simp at h2
          simp -dsimp -implicitDefEqProofs (disch := omega) [go_sem, -List.getD_eq_getElem?_getD, ite_yes, hlt, cs, cs0]
          exact LoopEnd.of (k + 1) ⟨by omega, hg.next (by simpa using h1) fun h => by omega⟩ (by omega) (weakS_same (by simp -dsimp -implicitDefEqProofs (disch := omega) [go_sem, -List.getD_eq_getElem?_getD, ite_yes, ht]))
    · simp -dsimp -implicitDefEqProofs (disch := omega) [go_sem, -List.getD_eq_getElem?_getD, ite_yes, hlt]
      obtain rfl : k = l.length := by omega
      exact fin_flat0 rfl (by rw [good_end hg])
theorem iValidReadings_A (l : List Rd) (hl : l.length ≤ 1048577) (c : Nat) (H : Heap) (t : Nat) (hS : Sl rdE H t l) :
    AFunC Tryd.prog 65 [.slice (some ⟨t, 0, none⟩) l.length c] H (.bool (good l)) H := by
  refine AFunC.of_body Tryd.func65 (by kernel_rfl) rfl (by kernel_rfl) (by simp [Tryd.ntmps65]) ?_
  have ht := hS.lt
  have cs := fun k hk => hS.cells (s := 2) (fun _ => rfl) (0, 0) k hk
  have cs0 := fun k hk => hS.cell (s := 2) (fun _ => rfl) (0, 0) k 0 hk (by omega)
  simp only [Nat.add_zero, rdE] at cs0 cs
  simp -dsimp -implicitDefEqProofs (disch := omega) [go_sem, -List.getD_eq_getElem?_getD, ite_yes]
  refine ALoop.intro (ι := Nat) (fun k => k ≤ l.length ∧ goodTo l k) (fun k => [(0, .slice (some ⟨t, 0, none⟩) l.length c), (5, .slice (some ⟨t, 0, none⟩) l.length c), (6, .int .i64 l.length), (7, .int .i64 k)]) (fun _ => H) (fun k => l.length - k) 0 ⟨by omega, fun i hi => by omega⟩ ?_ ?_
  · exact weakS_same (by simp -dsimp -implicitDefEqProofs (disch := omega) [go_sem, -List.getD_eq_getElem?_getD, ite_yes, ht])
  · rintro k ⟨hk, hg⟩
    by_cases hlt : k < l.length
    · simp -dsimp -implicitDefEqProofs (disch := omega) [go_sem, -List.getD_eq_getElem?_getD, ite_yes, hlt, cs, ht]
      refine ADraw.quiet (by kernel_rfl) (by kernel_rfl) (by kernel_rfl) ?_
      simp -dsimp -implicitDefEqProofs (disch := omega) [go_sem, -List.getD_eq_getElem?_getD, ite_yes, hlt, cs, cs0, ht]
      refine ACallQ.of (isReading_A (l.getD k (0, 0)) _) rfl ?_
      simp -dsimp -implicitDefEqProofs (disch := omega) [go_sem, -List.getD_eq_getElem?_getD, ite_yes, hlt, cs, cs0, ht]
      refine AIf.of (fun h1 => ?_) (fun h1 => ?_)
      · simp -dsimp -implicitDefEqProofs (disch := omega) [go_sem, -List.getD_eq_getElem?_getD, ite_yes, hlt, cs, cs0]
        exact fin_flat rfl (by rw [good_no hlt (.inl (by simpa using h1))])
      · simp -dsimp -implicitDefEqProofs (disch := omega) [go_sem, -List.getD_eq_getElem?_getD, ite_yes, hlt, cs, cs0]
        refine AIf.of (fun h2 => ?_) (fun h2 => ?_)
        · simp at h2
          simp -dsimp -implicitDefEqProofs (disch := omega) [go_sem, -List.getD_eq_getElem?_getD, ite_yes, hlt, cs, cs0, ht]
          refine AIf.of (fun h3 => ?_) (fun h3 => ?_)
          · simp -dsimp -implicitDefEqProofs (disch := omega) [go_sem, -List.getD_eq_getElem?_getD, ite_yes, hlt, cs, cs0]
            exact fin_flat rfl (by rw [good_no hlt (.inr ⟨h2, by simpa using h3⟩)])
          · simp -dsimp -implicitDefEqProofs (disch := omega) [go_sem, -List.getD_eq_getElem?_getD, ite_yes, hlt, cs, cs0]
            exact LoopEnd.of (k + 1) ⟨by omega, hg.next (by simpa using h1) fun _ => by simpa using h3⟩ (by omega) (weakS_drop (by simp -dsimp -implicitDefEqProofs (disch := omega) [go_sem, -List.getD_eq_getElem?_getD, ite_yes, ht]))
        · simp at h2
          simp -dsimp -implicitDefEqProofs (disch := omega) [go_sem, -List.getD_eq_getElem?_getD, ite_yes, hlt, cs, cs0]
          exact LoopEnd.of (k + 1) ⟨by omega, hg.next (by simpa using h1) fun h => by omega⟩ (by omega) (weakS_drop (by simp -dsimp -implicitDefEqProofs (disch := omega) [go_sem, -List.getD_eq_getElem?_getD, ite_yes, ht]))
    · simp -dsimp -implicitDefEqProofs (disch := omega) [go_sem, -List.getD_eq_getElem?_getD, ite_yes, hlt]
      obtain rfl : k = l.length := by omega
      exact fin_flat0 rfl (by rw [good_end hg])
end Go.Proofs.YthnnbgggfpempaaDoor
