/- slices.Sort and slices.Equal on at most ten numbers. -/
import Derived.Test.YtamkdgjagjpmlaaSort
namespace Go.Proofs.Ytamkdgjagjpmlaa
open Go.Am
set_option linter.unusedVariables false
set_option linter.unusedSimpArgs false
set_option maxRecDepth 100000
set_option maxHeartbeats 4000000

theorem wrap_u64 {x : Int} (h1 : 0 ≤ x) (h2 : x ≤ 1000) : IntKind.u64.wrap x = x := by
  simp [IntKind.wrap, IntKind.signed, IntKind.bits]; omega
theorem len64_A (k : Nat) (hk : k ≤ 10) (H : Heap) : ∃ r : Int, AFunC Try.prog 81 [.int .u64 k] H (.int .i64 r) H := by
  have h1 : ¬ (4294967296 : Int) ≤ (k : Int) := by omega
  have h2 : ¬ (65536 : Int) ≤ (k : Int) := by omega
  have h3 : ¬ (256 : Int) ≤ (k : Int) := by omega
  match k, hk with
  | 0, _ =>
    refine ⟨0, ?_⟩
    refine AFunC.of_body Try.func81 (by kernel_rfl) rfl (by kernel_rfl) (by simp [Try.ntmps81]) ?_
    simp -dsimp -implicitDefEqProofs (disch := omega) [go_sem, -List.getD_eq_getElem?_getD, ite_yes]
    exact fin_flat0 rfl rfl
  | 1, _ =>
    refine ⟨1, ?_⟩
    refine AFunC.of_body Try.func81 (by kernel_rfl) rfl (by kernel_rfl) (by simp [Try.ntmps81]) ?_
    simp -dsimp -implicitDefEqProofs (disch := omega) [go_sem, -List.getD_eq_getElem?_getD, ite_yes]
    exact fin_flat0 rfl rfl
  | 2, _ =>
    refine ⟨2, ?_⟩
    refine AFunC.of_body Try.func81 (by kernel_rfl) rfl (by kernel_rfl) (by simp [Try.ntmps81]) ?_
    simp -dsimp -implicitDefEqProofs (disch := omega) [go_sem, -List.getD_eq_getElem?_getD, ite_yes]
    exact fin_flat0 rfl rfl
  | 3, _ =>
    refine ⟨2, ?_⟩
    refine AFunC.of_body Try.func81 (by kernel_rfl) rfl (by kernel_rfl) (by simp [Try.ntmps81]) ?_
    simp -dsimp -implicitDefEqProofs (disch := omega) [go_sem, -List.getD_eq_getElem?_getD, ite_yes]
    exact fin_flat0 rfl rfl
  | 4, _ =>
    refine ⟨3, ?_⟩
    refine AFunC.of_body Try.func81 (by kernel_rfl) rfl (by kernel_rfl) (by simp [Try.ntmps81]) ?_
    simp -dsimp -implicitDefEqProofs (disch := omega) [go_sem, -List.getD_eq_getElem?_getD, ite_yes]
    exact fin_flat0 rfl rfl
  | 5, _ =>
    refine ⟨3, ?_⟩
    refine AFunC.of_body Try.func81 (by kernel_rfl) rfl (by kernel_rfl) (by simp [Try.ntmps81]) ?_
    simp -dsimp -implicitDefEqProofs (disch := omega) [go_sem, -List.getD_eq_getElem?_getD, ite_yes]
    exact fin_flat0 rfl rfl
  | 6, _ =>
    refine ⟨3, ?_⟩
    refine AFunC.of_body Try.func81 (by kernel_rfl) rfl (by kernel_rfl) (by simp [Try.ntmps81]) ?_
    simp -dsimp -implicitDefEqProofs (disch := omega) [go_sem, -List.getD_eq_getElem?_getD, ite_yes]
    exact fin_flat0 rfl rfl
  | 7, _ =>
    refine ⟨3, ?_⟩
    refine AFunC.of_body Try.func81 (by kernel_rfl) rfl (by kernel_rfl) (by simp [Try.ntmps81]) ?_
    simp -dsimp -implicitDefEqProofs (disch := omega) [go_sem, -List.getD_eq_getElem?_getD, ite_yes]
    exact fin_flat0 rfl rfl
  | 8, _ =>
    refine ⟨4, ?_⟩
    refine AFunC.of_body Try.func81 (by kernel_rfl) rfl (by kernel_rfl) (by simp [Try.ntmps81]) ?_
    simp -dsimp -implicitDefEqProofs (disch := omega) [go_sem, -List.getD_eq_getElem?_getD, ite_yes]
    exact fin_flat0 rfl rfl
  | 9, _ =>
    refine ⟨4, ?_⟩
    refine AFunC.of_body Try.func81 (by kernel_rfl) rfl (by kernel_rfl) (by simp [Try.ntmps81]) ?_
    simp -dsimp -implicitDefEqProofs (disch := omega) [go_sem, -List.getD_eq_getElem?_getD, ite_yes]
    exact fin_flat0 rfl rfl
  | 10, _ =>
    refine ⟨4, ?_⟩
    refine AFunC.of_body Try.func81 (by kernel_rfl) rfl (by kernel_rfl) (by simp [Try.ntmps81]) ?_
    simp -dsimp -implicitDefEqProofs (disch := omega) [go_sem, -List.getD_eq_getElem?_getD, ite_yes]
    exact fin_flat0 rfl rfl
theorem len_A (k : Nat) (hk : k ≤ 10) (H : Heap) : ∃ r : Int, AFunC Try.prog 55 [.int .u64 k] H (.int .i64 r) H := by
  obtain ⟨r, A⟩ := len64_A k hk H
  refine ⟨r, ?_⟩
  refine AFunC.of_body Try.func55 (by kernel_rfl) rfl (by kernel_rfl) (by simp [Try.ntmps55]) ?_
  simp -dsimp -implicitDefEqProofs (disch := omega) [go_sem, -List.getD_eq_getElem?_getD, ite_yes]
  refine ACall.of A ?_
  simp -dsimp -implicitDefEqProofs (disch := omega) [go_sem, -List.getD_eq_getElem?_getD, ite_yes]
  exact fin_flat0 rfl rfl
theorem pdq_R (l : List Int) (hl : l.length ≤ 10) (c e : Nat) (lim : Int) (H : Heap) (t : Nat) (hb : H.get t = some ⟨l.flatMap nmE, true, e, 1⟩) :
    AFunR Try.prog 54 [.slice (some ⟨t, 0, none⟩) l.length c, .int .i64 0, .int .i64 l.length, .int .i64 lim] H (SortOut H t e l) := by
  refine AFunR.of_body Try.func54 (by kernel_rfl) rfl (by kernel_rfl) (by simp [Try.ntmps54]) ?_
  have ht := Heap.get_lt hb
  have h12 : (l.length : Int) ≤ 12 := by omega
  simp -dsimp -implicitDefEqProofs (disch := omega) [go_sem, -List.getD_eq_getElem?_getD, ite_yes, ht]
  refine ALoop.intro (ι := Unit) (fun _ => True) (fun _ => [(0, .slice (some ⟨t, 0, none⟩) l.length c), (1, .int .i64 0), (2, .int .i64 l.length)]) (fun _ => H) (fun _ => 0) () trivial ?_ ?_
  · exact weakS_same (by simp -dsimp -implicitDefEqProofs (disch := omega) [go_sem, -List.getD_eq_getElem?_getD, ite_yes, ht])
  intro _ _
  simp -dsimp -implicitDefEqProofs (disch := omega) [go_sem, -List.getD_eq_getElem?_getD, ite_yes, h12]
  refine ACall.via (insertionSort_R l (by omega) c e H t hb) ?_
  rintro v G ⟨m, rfl, h1, h2, rfl⟩
  simp -dsimp -implicitDefEqProofs (disch := omega) [go_sem, -List.getD_eq_getElem?_getD, ite_yes]
  exact EndR.of (.tuple #[]) (H.set t (some ⟨m.flatMap nmE, true, e, 1⟩)) ⟨m, rfl, h1, h2, rfl⟩ (fin_set ht (nmE_flat m) rfl rfl rfl rfl)
theorem sort_R (l : List Int) (hl : l.length ≤ 10) (c e : Nat) (H : Heap) (t : Nat) (hb : H.get t = some ⟨l.flatMap nmE, true, e, 1⟩) :
    AFunR Try.prog 40 [.slice (some ⟨t, 0, none⟩) l.length c] H (SortOut H t e l) := by
  obtain ⟨r, A⟩ := len_A l.length hl H
  refine AFunR.of_body Try.func40 (by kernel_rfl) rfl (by kernel_rfl) (by simp [Try.ntmps40]) ?_
  have ht := Heap.get_lt hb
  simp -dsimp -implicitDefEqProofs (disch := omega) [go_sem, -List.getD_eq_getElem?_getD, ite_yes, wrap_u64, ht]
  refine ACall.of A ?_
  simp -dsimp -implicitDefEqProofs (disch := omega) [go_sem, -List.getD_eq_getElem?_getD, ite_yes, ht]
  refine ACall.via (pdq_R l hl c e r H t hb) ?_
  rintro v G ⟨m, rfl, h1, h2, rfl⟩
  simp -dsimp -implicitDefEqProofs (disch := omega) [go_sem, -List.getD_eq_getElem?_getD, ite_yes]
  exact EndR.of (.tuple #[]) (H.set t (some ⟨m.flatMap nmE, true, e, 1⟩)) ⟨m, rfl, h1, h2, rfl⟩ (fin_set ht (nmE_flat m) rfl rfl rfl rfl)
theorem equalNm_A (l m : List Int) (hl : l.length ≤ 1048577) (hm : m.length ≤ 1048577) (c d : Nat) (H : Heap) (t u : Nat) (hS : Sl nmE H t l) (hU : Sl nmE H u m) :
    AFunC Try.prog 41 [.slice (some ⟨t, 0, none⟩) l.length c, .slice (some ⟨u, 0, none⟩) m.length d] H (.bool (decide (l = m))) H := by
  refine AFunC.of_body Try.func41 (by kernel_rfl) rfl (by kernel_rfl) (by simp [Try.ntmps41]) ?_
  have ht := hS.lt
  have hu := hU.lt
  have cs := fun k hk => hS.one (g := fun n => Value.int .i64 n) 0 k hk
  have cu := fun k hk => hU.one (g := fun n => Value.int .i64 n) 0 k hk
  by_cases hlm : l.length = m.length
  rotate_left
  · have h2 : ¬ (l.length : Int) = (m.length : Int) := by omega
    simp -dsimp -implicitDefEqProofs (disch := omega) [go_sem, -List.getD_eq_getElem?_getD, ite_yes, h2, hlm]
    exact fin_flat0 rfl (by rw [decide_eq_false (fun e => hlm (by rw [e]))])
  have h2 : (l.length : Int) = (m.length : Int) := by omega
  simp -dsimp -implicitDefEqProofs (disch := omega) [go_sem, -List.getD_eq_getElem?_getD, ite_yes, h2, hlm]
  refine ALoop.intro (ι := Nat) (fun k => k ≤ m.length ∧ ∀ i, i < k → l.getD i 0 = m.getD i 0) (fun k => [(0, .slice (some ⟨t, 0, none⟩) l.length c), (1, .slice (some ⟨u, 0, none⟩) m.length d), (12, .int .i64 m.length), (13, .int .i64 k)]) (fun _ => H) (fun k => m.length - k) 0 ⟨by omega, fun i hi => by omega⟩ ?_ ?_
  · exact weakS_same (by simp -dsimp -implicitDefEqProofs (disch := omega) [go_sem, -List.getD_eq_getElem?_getD, ite_yes, ht, hu, hlm])
  · rintro k ⟨hk, hf⟩
    by_cases hlt : k < m.length
    · have hlt2 : k < l.length := by omega
      have c1 := cs k hlt2
      have c2 := cu k hlt
      simp -dsimp -implicitDefEqProofs (disch := omega) [go_sem, -List.getD_eq_getElem?_getD, ite_yes, hlt, hlt2, ht, hu]
      refine ADraw.quiet (by kernel_rfl) (by kernel_rfl) (by kernel_rfl) ?_
      by_cases h : l.getD k 0 = m.getD k 0
      · simp -dsimp -implicitDefEqProofs (disch := omega) [go_sem, -List.getD_eq_getElem?_getD, ite_yes, hlt, hlt2, c1, c2, ht, hu, h]
        refine LoopEnd.of (k + 1) ⟨by omega, fun i hi => ?_⟩ (by omega) (weakS_same (by simp -dsimp -implicitDefEqProofs (disch := omega) [go_sem, -List.getD_eq_getElem?_getD, ite_yes, ht, hu]))
        rcases Nat.lt_or_ge i k with h' | h'
        · exact hf i h'
        · rw [show i = k by omega]; exact h
      · simp -dsimp -implicitDefEqProofs (disch := omega) [go_sem, -List.getD_eq_getElem?_getD, ite_yes, hlt, hlt2, c1, c2, ht, hu, h]
        exact fin_flat0 rfl (by rw [decide_eq_false (fun e => h (by rw [e]))])
    · simp -dsimp -implicitDefEqProofs (disch := omega) [go_sem, -List.getD_eq_getElem?_getD, ite_yes, hlt]
      have : l = m := by
        refine List.ext_getElem hlm fun i h1 h2 => ?_
        have := hf i (by omega)
        simpa [List.getD_eq_getElem?_getD, h1, h2] using this
      exact fin_flat0 rfl (by rw [decide_eq_true this])
end Go.Proofs.Ytamkdgjagjpmlaa
