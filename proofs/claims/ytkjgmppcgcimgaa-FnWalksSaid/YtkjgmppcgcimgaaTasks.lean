/- Tasks: what the functions on tasks compute. -/
import Derived.Test.YtkjgmppcgcimgaaFacts
import Derived.Test.YtkjgmppcgcimgaaAm13
import Derived.Test.YtkjgmppcgcimgaaRecTk
import Derived.Test.YtkjgmppcgcimgaaRecNm
import Derived.Test.YtkjgmppcgcimgaaDays
namespace Go.Proofs.Ytkjgmppcgcimgaa
open Go.Am
set_option linter.unusedVariables false
set_option linter.unusedSimpArgs false
set_option maxRecDepth 100000

theorem isNode_A (n : Int) (H : Heap) : AFunC Try.prog 49 [.int .i64 n] H (.bool (inB n 1 8)) H := by
  refine AFunC.of_body Try.func49 (by kernel_rfl) rfl (by kernel_rfl) (by simp [Try.ntmps49]) ?_
  simp -dsimp -implicitDefEqProofs (disch := omega) [go_sem, -List.getD_eq_getElem?_getD, ite_yes]
  refine ACall.of (inside_A _ _ _ _) ?_
  simp -dsimp -implicitDefEqProofs (disch := omega) [go_sem, -List.getD_eq_getElem?_getD, ite_yes]
  exact fin_flat0 rfl rfl
def isTk (b : Tk) : Bool := inB b.1 1 99 && inB b.2.1 1 8 && inB b.2.2 1 480
def goodTTo (l : List Tk) (k : Nat) : Prop := ∀ i, i < k → isTk (l.getD i (0, 0, 0)) = true ∧ (0 < i → (l.getD (i - 1) (0, 0, 0)).1 < (l.getD i (0, 0, 0)).1)
instance goodTTo_dec (l : List Tk) (k : Nat) : Decidable (goodTTo l k) := by unfold goodTTo; infer_instance
def goodT (l : List Tk) : Bool := decide (goodTTo l l.length ∧ l.length ≤ 7)
theorem goodTTo.next {l : List Tk} {k : Nat} (h : goodTTo l k) (h1 : isTk (l.getD k (0, 0, 0)) = true) (h2 : 0 < k → (l.getD (k - 1) (0, 0, 0)).1 < (l.getD k (0, 0, 0)).1) : goodTTo l (k + 1) := by
  intro i hi
  rcases Nat.lt_or_ge i k with h' | h'
  · exact h i h'
  · obtain rfl : i = k := by omega
    exact ⟨h1, h2⟩
theorem goodT_no {l : List Tk} {k : Nat} (hk : k < l.length) (h : isTk (l.getD k (0, 0, 0)) = false ∨ 0 < k ∧ (l.getD k (0, 0, 0)).1 ≤ (l.getD (k - 1) (0, 0, 0)).1) : goodT l = false := by
  unfold goodT
  refine decide_eq_false fun h' => ?_
  have := h'.1 k hk
  rcases h with h | h
  · rw [this.1] at h; cases h
  · have := this.2 h.1; omega
theorem goodT_end {l : List Tk} (h : goodTTo l l.length) : goodT l = decide ((l.length : Int) ≤ 7) := by
  unfold goodT
  by_cases h' : l.length ≤ 7
  · rw [decide_eq_true ⟨h, h'⟩, decide_eq_true (by omega)]
  · rw [decide_eq_false (fun h => h' h.2), decide_eq_false (by omega)]
theorem goodT_at {l : List Tk} (h : goodT l = true) : l.length ≤ 7 ∧ ∀ i, i < l.length → 1 ≤ (l.getD i (0, 0, 0)).1 ∧ (l.getD i (0, 0, 0)).1 ≤ 99 ∧ 1 ≤ (l.getD i (0, 0, 0)).2.1 ∧ (l.getD i (0, 0, 0)).2.1 ≤ 8 ∧ 1 ≤ (l.getD i (0, 0, 0)).2.2 ∧ (l.getD i (0, 0, 0)).2.2 ≤ 480 := by
  unfold goodT at h
  have h := of_decide_eq_true h
  refine ⟨h.2, fun i hi => ?_⟩
  have := h.1 i hi
  simp only [isTk, inB, Bool.and_eq_true, decide_eq_true_eq] at this
  omega
theorem iValidTasks_A (l : List Tk) (hl : l.length ≤ 1048577) (c : Nat) (H : Heap) (t : Nat) (hS : Sl tkE H t l) :
    AFunC Try.prog 48 [.slice (some ⟨t, 0, none⟩) l.length c] H (.bool (goodT l)) H := by
  refine AFunC.of_body Try.func48 (by kernel_rfl) rfl (by kernel_rfl) (by simp [Try.ntmps48]) ?_
  have ht := hS.lt
  have cs := fun k hk => hS.cells (s := 3) (fun _ => rfl) (0, 0, 0) k hk
  have cs0 := fun k hk => hS.cell (s := 3) (fun _ => rfl) (0, 0, 0) k 0 hk (by omega)
  simp only [Nat.add_zero, tkE] at cs0 cs
  simp -dsimp -implicitDefEqProofs (disch := omega) [go_sem, -List.getD_eq_getElem?_getD, ite_yes]
  refine ALoop.intro (ι := Nat) (fun k => k ≤ l.length ∧ goodTTo l k) (fun k => [(0, .slice (some ⟨t, 0, none⟩) l.length c), (5, .slice (some ⟨t, 0, none⟩) l.length c), (6, .int .i64 l.length), (7, .int .i64 k)]) (fun _ => H) (fun k => l.length - k) 0 ⟨by omega, fun i hi => by omega⟩ ?_ ?_
  · exact weakS_same (by simp -dsimp -implicitDefEqProofs (disch := omega) [go_sem, -List.getD_eq_getElem?_getD, ite_yes, ht])
  · rintro k ⟨hk, hg⟩
    by_cases hlt : k < l.length
    · simp -dsimp -implicitDefEqProofs (disch := omega) [go_sem, -List.getD_eq_getElem?_getD, ite_yes, hlt, cs, ht]
      refine ADraw.quiet (by kernel_rfl) (by kernel_rfl) (by kernel_rfl) ?_
      simp -dsimp -implicitDefEqProofs (disch := omega) [go_sem, -List.getD_eq_getElem?_getD, ite_yes, hlt, ht]
      refine ACallQ.of (inside_A (l.getD k (0, 0, 0)).1 1 99 _) rfl ?_
      cases h1 : inB (l.getD k (0, 0, 0)).1 1 99
      · simp -dsimp -implicitDefEqProofs (disch := omega) [go_sem, -List.getD_eq_getElem?_getD, ite_yes]
        exact fin_flat rfl (by rw [goodT_no hlt (.inl (by simp only [isTk, h1, Bool.false_and]))])
      simp -dsimp -implicitDefEqProofs (disch := omega) [go_sem, -List.getD_eq_getElem?_getD, ite_yes]
      refine ACallQ.of (isNode_A (l.getD k (0, 0, 0)).2.1 _) rfl ?_
      cases h2 : inB (l.getD k (0, 0, 0)).2.1 1 8
      · simp -dsimp -implicitDefEqProofs (disch := omega) [go_sem, -List.getD_eq_getElem?_getD, ite_yes]
        exact fin_flat rfl (by rw [goodT_no hlt (.inl (by simp only [isTk, h1, h2, Bool.and_false, Bool.false_and]))])
      simp -dsimp -implicitDefEqProofs (disch := omega) [go_sem, -List.getD_eq_getElem?_getD, ite_yes]
      refine ACallQ.of (inside_A (l.getD k (0, 0, 0)).2.2 1 480 _) rfl ?_
      cases h3 : inB (l.getD k (0, 0, 0)).2.2 1 480
      · simp -dsimp -implicitDefEqProofs (disch := omega) [go_sem, -List.getD_eq_getElem?_getD, ite_yes]
        exact fin_flat rfl (by rw [goodT_no hlt (.inl (by simp only [isTk, h1, h2, h3, Bool.and_false]))])
      have hk1 : isTk (l.getD k (0, 0, 0)) = true := by simp only [isTk, h1, h2, h3, Bool.and_self]
      simp -dsimp -implicitDefEqProofs (disch := omega) [go_sem, -List.getD_eq_getElem?_getD, ite_yes]
      by_cases h4 : 0 < k
      · have h4' : (0 : Int) < (k : Int) := by omega
        have cp := cs0 (k - 1) (by omega)
        by_cases h5 : (l.getD k (0, 0, 0)).1 ≤ (l.getD (k - 1) (0, 0, 0)).1
        · simp -dsimp -implicitDefEqProofs (disch := omega) [go_sem, -List.getD_eq_getElem?_getD, ite_yes, h4, h4', cp, h5, ht]
          exact fin_flat rfl (by rw [goodT_no hlt (.inr ⟨h4, h5⟩)])
        · simp -dsimp -implicitDefEqProofs (disch := omega) [go_sem, -List.getD_eq_getElem?_getD, ite_yes, h4, h4', cp, h5, ht]
          exact LoopEnd.of (k + 1) ⟨by omega, hg.next hk1 fun _ => by omega⟩ (by omega) (weakS_drop (by simp -dsimp -implicitDefEqProofs (disch := omega) [go_sem, -List.getD_eq_getElem?_getD, ite_yes, ht]))
      · have h4' : ¬ (0 : Int) < (k : Int) := by omega
        simp -dsimp -implicitDefEqProofs (disch := omega) [go_sem, -List.getD_eq_getElem?_getD, ite_yes, h4, h4', ht]
        exact LoopEnd.of (k + 1) ⟨by omega, hg.next hk1 fun h => absurd h h4⟩ (by omega) (weakS_drop (by simp -dsimp -implicitDefEqProofs (disch := omega) [go_sem, -List.getD_eq_getElem?_getD, ite_yes, ht]))
    · simp -dsimp -implicitDefEqProofs (disch := omega) [go_sem, -List.getD_eq_getElem?_getD, ite_yes, hlt]
      obtain rfl : k = l.length := by omega
      exact fin_flat0 rfl (by rw [goodT_end hg])
theorem l22Good_A (l : List Tk) (hl : l.length ≤ 1048577) (c : Nat) (H : Heap) (t : Nat) (hS : Sl tkE H t l) :
    AFunC Try.prog 30 [.slice (some ⟨t, 0, none⟩) l.length c] H (.bool (goodT l)) H := by
  refine AFunC.of_body Try.func30 (by kernel_rfl) rfl (by kernel_rfl) (by simp [Try.ntmps30]) ?_
  have ht := hS.lt
  have cs := fun k hk => hS.cells (s := 3) (fun _ => rfl) (0, 0, 0) k hk
  have cs0 := fun k hk => hS.cell (s := 3) (fun _ => rfl) (0, 0, 0) k 0 hk (by omega)
  simp only [Nat.add_zero, tkE] at cs0 cs
  simp -dsimp -implicitDefEqProofs (disch := omega) [go_sem, -List.getD_eq_getElem?_getD, ite_yes]
  refine ALoop.intro (ι := Nat) (fun k => k ≤ l.length ∧ goodTTo l k) (fun k => [(0, .slice (some ⟨t, 0, none⟩) l.length c), (3, .int .i64 k)]) (fun _ => H) (fun k => l.length - k) 0 ⟨by omega, fun i hi => by omega⟩ ?_ ?_
  · exact weakS_same (by simp -dsimp -implicitDefEqProofs (disch := omega) [go_sem, -List.getD_eq_getElem?_getD, ite_yes, ht])
  · rintro k ⟨hk, hg⟩
    by_cases hlt : k < l.length
    · simp -dsimp -implicitDefEqProofs (disch := omega) [go_sem, -List.getD_eq_getElem?_getD, ite_yes, hlt, cs, ht]
      refine ADraw.quiet (by kernel_rfl) (by kernel_rfl) (by kernel_rfl) ?_
      simp -dsimp -implicitDefEqProofs (disch := omega) [go_sem, -List.getD_eq_getElem?_getD, ite_yes, hlt, ht]
      refine ACallQ.of (l1In_A (l.getD k (0, 0, 0)).1 1 99 _) rfl ?_
      cases h1 : inB (l.getD k (0, 0, 0)).1 1 99
      · simp -dsimp -implicitDefEqProofs (disch := omega) [go_sem, -List.getD_eq_getElem?_getD, ite_yes]
        exact fin_flat rfl (by rw [goodT_no hlt (.inl (by simp only [isTk, h1, Bool.false_and]))])
      simp -dsimp -implicitDefEqProofs (disch := omega) [go_sem, -List.getD_eq_getElem?_getD, ite_yes]
      refine ACallQ.of (l1In_A (l.getD k (0, 0, 0)).2.1 1 8 _) rfl ?_
      cases h2 : inB (l.getD k (0, 0, 0)).2.1 1 8
      · simp -dsimp -implicitDefEqProofs (disch := omega) [go_sem, -List.getD_eq_getElem?_getD, ite_yes]
        exact fin_flat rfl (by rw [goodT_no hlt (.inl (by simp only [isTk, h1, h2, Bool.and_false, Bool.false_and]))])
      simp -dsimp -implicitDefEqProofs (disch := omega) [go_sem, -List.getD_eq_getElem?_getD, ite_yes]
      refine ACallQ.of (l1In_A (l.getD k (0, 0, 0)).2.2 1 480 _) rfl ?_
      cases h3 : inB (l.getD k (0, 0, 0)).2.2 1 480
      · simp -dsimp -implicitDefEqProofs (disch := omega) [go_sem, -List.getD_eq_getElem?_getD, ite_yes]
        exact fin_flat rfl (by rw [goodT_no hlt (.inl (by simp only [isTk, h1, h2, h3, Bool.and_false]))])
      have hk1 : isTk (l.getD k (0, 0, 0)) = true := by simp only [isTk, h1, h2, h3, Bool.and_self]
      simp -dsimp -implicitDefEqProofs (disch := omega) [go_sem, -List.getD_eq_getElem?_getD, ite_yes]
      by_cases h4 : 0 < k
      · have h4' : (0 : Int) < (k : Int) := by omega
        have cp := cs0 (k - 1) (by omega)
        by_cases h5 : (l.getD k (0, 0, 0)).1 ≤ (l.getD (k - 1) (0, 0, 0)).1
        · simp -dsimp -implicitDefEqProofs (disch := omega) [go_sem, -List.getD_eq_getElem?_getD, ite_yes, h4, h4', cp, h5, ht]
          exact fin_flat rfl (by rw [goodT_no hlt (.inr ⟨h4, h5⟩)])
        · simp -dsimp -implicitDefEqProofs (disch := omega) [go_sem, -List.getD_eq_getElem?_getD, ite_yes, h4, h4', cp, h5, ht]
          exact LoopEnd.of (k + 1) ⟨by omega, hg.next hk1 fun _ => by omega⟩ (by omega) (weakS_drop (by simp -dsimp -implicitDefEqProofs (disch := omega) [go_sem, -List.getD_eq_getElem?_getD, ite_yes, ht]))
      · have h4' : ¬ (0 : Int) < (k : Int) := by omega
        simp -dsimp -implicitDefEqProofs (disch := omega) [go_sem, -List.getD_eq_getElem?_getD, ite_yes, h4, h4', ht]
        exact LoopEnd.of (k + 1) ⟨by omega, hg.next hk1 fun h => absurd h h4⟩ (by omega) (weakS_drop (by simp -dsimp -implicitDefEqProofs (disch := omega) [go_sem, -List.getD_eq_getElem?_getD, ite_yes, ht]))
    · simp -dsimp -implicitDefEqProofs (disch := omega) [go_sem, -List.getD_eq_getElem?_getD, ite_yes, hlt]
      obtain rfl : k = l.length := by omega
      exact fin_flat0 rfl (by rw [goodT_end hg])
end Go.Proofs.Ytkjgmppcgcimgaa
