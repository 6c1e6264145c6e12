/- StoppedDays: both sides, and the law. -/
import Derived.Test.YthnnbgggfpempaaDoorL19
namespace Go.Proofs.YthnnbgggfpempaaDoor
open Go.Am
set_option linter.unusedVariables false
set_option linter.unusedSimpArgs false
set_option maxRecDepth 100000

/-- the days of the first k readings on which nothing was used -/
def stopTo (l : List Rd) : Nat → Int
  | 0 => 0
  | k + 1 => stopTo l k + (if 0 < k ∧ (l.getD k (0, 0)).2 = (l.getD (k - 1) (0, 0)).2 then (l.getD k (0, 0)).1 - (l.getD (k - 1) (0, 0)).1 else 0)
theorem stopTo_bound {l : List Rd} (h : good l = true) : ∀ k, k ≤ l.length → 0 ≤ stopTo l k ∧ stopTo l k ≤ 3650 * k
  | 0, _ => by simp [stopTo]
  | k + 1, hk => by
    have ih := stopTo_bound h k (by omega)
    have g := (good_at h).2
    have h1 := g k (by omega)
    simp only [stopTo]
    split
    · rename_i hh
      have h2 := g (k - 1) (by omega)
      have := h1.2.2.2.2 hh.1
      omega
    · omega
def stopped (l : List Rd) : Int := stopTo l l.length
theorem stopTo_yes {l : List Rd} {k : Nat} (h0 : 0 < k) (h : (l.getD k (0, 0)).2 = (l.getD (k - 1) (0, 0)).2) : stopTo l (k + 1) = stopTo l k + ((l.getD k (0, 0)).1 - (l.getD (k - 1) (0, 0)).1) := by
  simp only [stopTo]; rw [if_pos ⟨h0, h⟩]
theorem stopTo_no {l : List Rd} {k : Nat} (h : (l.getD k (0, 0)).2 ≠ (l.getD (k - 1) (0, 0)).2) : stopTo l (k + 1) = stopTo l k := by
  simp only [stopTo]; rw [if_neg (fun h' => h h'.2)]; omega
def stopN (l : List Rd) : Int := if good l = true then stopped l else 0
theorem stopEnd {l : List Rd} {k : Nat} (h1 : k ≤ max 1 l.length) (h0 : 1 ≤ k) (h : ¬ k < l.length) : stopTo l k = stopped l := by
  unfold stopped
  rcases Nat.lt_or_ge 0 l.length with h' | h'
  · have : k = l.length := by omega
    rw [this]
  · have : k = 1 := by omega
    have hl : l.length = 0 := by omega
    rw [this, hl]; simp [stopTo]

theorem iStopped_A (l : List Rd) (hl : l.length ≤ 1048577) (c : Nat) (H : Heap) (t : Nat) (hS : Sl rdE H t l) :
    AFunC Tryd.prog 18 [.slice (some ⟨t, 0, none⟩) l.length c] H (.tuple #[.int .i64 (stopN l), .bool (good l)]) H := by
  refine AFunC.of_body Tryd.func18 (by kernel_rfl) rfl (by kernel_rfl) (by simp [Tryd.ntmps18]) ?_
  have ht := hS.lt
  have cs0 := fun k hk => hS.cell (s := 2) (fun _ => rfl) (0, 0) k 0 hk (by omega)
  have cs1 := fun k hk => hS.cell (s := 2) (fun _ => rfl) (0, 0) k 1 hk (by omega)
  simp only [Nat.add_zero, rdE] at cs0 cs1
  simp -dsimp -implicitDefEqProofs (disch := omega) [go_sem, -List.getD_eq_getElem?_getD, ite_yes]
  refine ACall.of (iValidReadings_A l hl c H t hS) ?_
  simp -dsimp -implicitDefEqProofs (disch := omega) [go_sem, -List.getD_eq_getElem?_getD, ite_yes]
  refine AIf.of (fun h => ?_) (fun h => ?_)
  · simp -dsimp -implicitDefEqProofs (disch := omega) [go_sem, -List.getD_eq_getElem?_getD, ite_yes]
    exact fin_flat0 rfl (by simp at h; simp [stopN, h])
  have hg : good l = true := by simpa using h
  obtain ⟨h12, hat⟩ := good_at hg
  simp -dsimp -implicitDefEqProofs (disch := omega) [go_sem, -List.getD_eq_getElem?_getD, ite_yes]
  refine ALoop.intro (ι := Nat) (fun k => 1 ≤ k ∧ k ≤ max 1 l.length) (fun k => [(0, .slice (some ⟨t, 0, none⟩) l.length c), (4, .int .i64 (stopTo l k)), (5, .int .i64 k)]) (fun _ => H) (fun k => max 1 l.length - k) 1 ⟨by omega, by omega⟩ ?_ ?_
  · exact weakS_same (by simp -dsimp -implicitDefEqProofs (disch := omega) [go_sem, -List.getD_eq_getElem?_getD, ite_yes, ht, stopTo])
  · rintro k ⟨hk, hk'⟩
    by_cases hlt : k < l.length
    · have b1 := hat k hlt
      have b2 := hat (k - 1) (by omega)
      have b3 := stopTo_bound hg k (by omega)
      have b4 := stopTo_bound hg (k + 1) (by omega)
      simp -dsimp -implicitDefEqProofs (disch := omega) [go_sem, -List.getD_eq_getElem?_getD, ite_yes, hlt]
      refine ADraw.quiet (by kernel_rfl) (by kernel_rfl) (by kernel_rfl) ?_
      simp -dsimp -implicitDefEqProofs (disch := omega) [go_sem, -List.getD_eq_getElem?_getD, ite_yes, hlt, cs0, cs1]
      refine AIf.of (fun h1 => ?_) (fun h1 => ?_)
      · have e := stopTo_yes (l := l) hk (by simpa using h1)
        simp -dsimp -implicitDefEqProofs (disch := omega) [go_sem, -List.getD_eq_getElem?_getD, ite_yes]
        refine ADraw.quiet (by kernel_rfl) (by kernel_rfl) (by kernel_rfl) ?_
        simp -dsimp -implicitDefEqProofs (disch := omega) [go_sem, -List.getD_eq_getElem?_getD, ite_yes, hlt, cs0, cs1]
        exact LoopEnd.of (k + 1) (by omega) (by omega) (weakS_same (by simp -dsimp -implicitDefEqProofs (disch := omega) [go_sem, -List.getD_eq_getElem?_getD, ite_yes, ht, e]))
      · have e := stopTo_no (l := l) (k := k) (by simpa using h1)
        simp -dsimp -implicitDefEqProofs (disch := omega) [go_sem, -List.getD_eq_getElem?_getD, ite_yes, hlt, cs0, cs1]
        exact LoopEnd.of (k + 1) (by omega) (by omega) (weakS_same (by simp -dsimp -implicitDefEqProofs (disch := omega) [go_sem, -List.getD_eq_getElem?_getD, ite_yes, ht, e]))
    · simp -dsimp -implicitDefEqProofs (disch := omega) [go_sem, -List.getD_eq_getElem?_getD, ite_yes, hlt]
      exact fin_flat0 rfl (by rw [stopEnd hk' hk hlt]; simp [stopN, hg])
theorem sStopped_A (l : List Rd) (hl : l.length ≤ 1048577) (c : Nat) (H : Heap) (t : Nat) (hS : Sl rdE H t l) :
    AFunC Tryd.prog 19 [.slice (some ⟨t, 0, none⟩) l.length c] H (.tuple #[.int .i64 (stopN l), .bool (good l)]) H := by
  refine AFunC.of_body Tryd.func19 (by kernel_rfl) rfl (by kernel_rfl) (by simp [Tryd.ntmps19]) ?_
  have ht := hS.lt
  have cs0 := fun k hk => hS.cell (s := 2) (fun _ => rfl) (0, 0) k 0 hk (by omega)
  have cs1 := fun k hk => hS.cell (s := 2) (fun _ => rfl) (0, 0) k 1 hk (by omega)
  simp only [Nat.add_zero, rdE] at cs0 cs1
  simp -dsimp -implicitDefEqProofs (disch := omega) [go_sem, -List.getD_eq_getElem?_getD, ite_yes]
  refine ACall.of (l19Good_A l hl c H t hS) ?_
  simp -dsimp -implicitDefEqProofs (disch := omega) [go_sem, -List.getD_eq_getElem?_getD, ite_yes]
  refine AIf.of (fun h => ?_) (fun h => ?_)
  · simp -dsimp -implicitDefEqProofs (disch := omega) [go_sem, -List.getD_eq_getElem?_getD, ite_yes]
    exact fin_flat0 rfl (by simp at h; simp [stopN, h])
  have hg : good l = true := by simpa using h
  obtain ⟨h12, hat⟩ := good_at hg
  simp -dsimp -implicitDefEqProofs (disch := omega) [go_sem, -List.getD_eq_getElem?_getD, ite_yes]
  refine ALoop.intro (ι := Nat) (fun k => 1 ≤ k ∧ k ≤ max 1 l.length) (fun k => [(0, .slice (some ⟨t, 0, none⟩) l.length c), (4, .int .i64 (stopTo l k)), (5, .int .i64 k)]) (fun _ => H) (fun k => max 1 l.length - k) 1 ⟨by omega, by omega⟩ ?_ ?_
  · exact weakS_same (by simp -dsimp -implicitDefEqProofs (disch := omega) [go_sem, -List.getD_eq_getElem?_getD, ite_yes, ht, stopTo])
  · rintro k ⟨hk, hk'⟩
    by_cases hlt : k < l.length
    · have b1 := hat k hlt
      have b2 := hat (k - 1) (by omega)
      have b3 := stopTo_bound hg k (by omega)
      have b4 := stopTo_bound hg (k + 1) (by omega)
      simp -dsimp -implicitDefEqProofs (disch := omega) [go_sem, -List.getD_eq_getElem?_getD, ite_yes, hlt]
      refine ADraw.quiet (by kernel_rfl) (by kernel_rfl) (by kernel_rfl) ?_
      simp -dsimp -implicitDefEqProofs (disch := omega) [go_sem, -List.getD_eq_getElem?_getD, ite_yes, hlt, cs0, cs1]
      refine AIf.of (fun h1 => ?_) (fun h1 => ?_)
      · have e := stopTo_yes (l := l) hk (by simp at h1; exact h1.symm)
        simp -dsimp -implicitDefEqProofs (disch := omega) [go_sem, -List.getD_eq_getElem?_getD, ite_yes]
        refine ADraw.quiet (by kernel_rfl) (by kernel_rfl) (by kernel_rfl) ?_
        simp -dsimp -implicitDefEqProofs (disch := omega) [go_sem, -List.getD_eq_getElem?_getD, ite_yes, hlt, cs0, cs1]
        exact LoopEnd.of (k + 1) (by omega) (by omega) (weakS_same (by simp -dsimp -implicitDefEqProofs (disch := omega) [go_sem, -List.getD_eq_getElem?_getD, ite_yes, ht, e]; omega))
      · have e := stopTo_no (l := l) (k := k) (by simp at h1; exact fun h' => h1 h'.symm)
        simp -dsimp -implicitDefEqProofs (disch := omega) [go_sem, -List.getD_eq_getElem?_getD, ite_yes, hlt, cs0, cs1]
        exact LoopEnd.of (k + 1) (by omega) (by omega) (weakS_same (by simp -dsimp -implicitDefEqProofs (disch := omega) [go_sem, -List.getD_eq_getElem?_getD, ite_yes, ht, e]))
    · simp -dsimp -implicitDefEqProofs (disch := omega) [go_sem, -List.getD_eq_getElem?_getD, ite_yes, hlt]
      exact fin_flat0 rfl (by rw [stopEnd hk' hk hlt]; simp [stopN, hg])
end Go.Proofs.YthnnbgggfpempaaDoor
