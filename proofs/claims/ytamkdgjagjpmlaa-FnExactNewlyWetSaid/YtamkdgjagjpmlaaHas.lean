/- The reference's lists of numbers: whether one is in, and the list with it. -/
import Derived.Test.YtamkdgjagjpmlaaValves
import Derived.Test.YtamkdgjagjpmlaaPut
namespace Go.Proofs.Ytamkdgjagjpmlaa
open Go.Am
set_option linter.unusedVariables false
set_option linter.unusedSimpArgs false
set_option maxRecDepth 100000
set_option maxHeartbeats 2000000

theorem l1Has_A (l : List Int) (n : Int) (hl : l.length ≤ 1048577) (c : Nat) (H : Heap) (t : Nat) (hS : Sl nmE H t l) :
    AFunC Try.prog 23 [.slice (some ⟨t, 0, none⟩) l.length c, .int .i64 n] H (.bool (hasI l n)) H := by
  refine AFunC.of_body Try.func23 (by kernel_rfl) rfl (by kernel_rfl) (by simp [Try.ntmps23]) ?_
  have ht := hS.lt
  have cs := fun k hk => hS.one (g := fun n => Value.int .i64 n) 0 k hk
  simp -dsimp -implicitDefEqProofs (disch := omega) [go_sem, -List.getD_eq_getElem?_getD, ite_yes]
  refine ALoop.intro (ι := Nat) (fun k => k ≤ l.length ∧ ∀ i, i < k → l.getD i 0 ≠ n) (fun k => [(0, .slice (some ⟨t, 0, none⟩) l.length c), (1, .int .i64 n), (5, .int .i64 k)]) (fun _ => H) (fun k => l.length - k) 0 ⟨by omega, fun i hi => by omega⟩ ?_ ?_
  · exact weakS_same (by simp -dsimp -implicitDefEqProofs (disch := omega) [go_sem, -List.getD_eq_getElem?_getD, ite_yes, ht])
  · rintro k ⟨hk, hf⟩
    by_cases hlt : k < l.length
    · by_cases h : l.getD k 0 = n
      · simp -dsimp -implicitDefEqProofs (disch := omega) [go_sem, -List.getD_eq_getElem?_getD, ite_yes, hlt, cs, h]
        exact fin_flat0 rfl (by rw [hasI_yes hlt h])
      · simp -dsimp -implicitDefEqProofs (disch := omega) [go_sem, -List.getD_eq_getElem?_getD, ite_yes, hlt, cs, h]
        refine LoopEnd.of (k + 1) ⟨by omega, fun i hi => ?_⟩ (by omega) (weakS_same (by simp -dsimp -implicitDefEqProofs (disch := omega) [go_sem, -List.getD_eq_getElem?_getD, ite_yes, ht]))
        rcases Nat.lt_or_ge i k with h' | h'
        · exact hf i h'
        · rw [show i = k by omega]; exact h
    · simp -dsimp -implicitDefEqProofs (disch := omega) [go_sem, -List.getD_eq_getElem?_getD, ite_yes, hlt]
      exact fin_flat0 rfl (by rw [hasI_no (fun i hi => hf i (by omega))])
theorem l1Put_in (l : List Int) (n : Int) (hl : l.length ≤ 1048577) (hu : Up l) (hn : hasI l n = true) (c : Nat) (H : Heap) (t : Nat) (hS : Sl nmE H t l) :
    AFunC Try.prog 64 [.slice (some ⟨t, 0, none⟩) l.length c, .int .i64 n] H (.slice (some ⟨t, 0, none⟩) l.length c) H := by
  refine AFunC.of_body Try.func64 (by kernel_rfl) rfl (by kernel_rfl) (by simp [Try.ntmps64]) ?_
  have ht := hS.lt
  have cs := fun k hk => hS.one (g := fun n => Value.int .i64 n) 0 k hk
  obtain ⟨hp1, hp2⟩ := hu.mem_iff.1 (of_decide_eq_true hn)
  simp -dsimp -implicitDefEqProofs (disch := omega) [go_sem, -List.getD_eq_getElem?_getD, ite_yes]
  refine ALoop.intro (ι := Nat) (fun k => k ≤ place l n) (fun k => [(0, .slice (some ⟨t, 0, none⟩) l.length c), (1, .int .i64 n), (5, .int .i64 k)]) (fun _ => H) (fun k => l.length - k) 0 (by omega) ?_ ?_
  · exact weakS_same (by simp -dsimp -implicitDefEqProofs (disch := omega) [go_sem, -List.getD_eq_getElem?_getD, ite_yes, ht])
  · intro k hk
    have hlt : k < l.length := by omega
    by_cases h : k = place l n
    · subst h
      have h2 : ¬ l.getD (place l n) 0 < n := by omega
      simp -dsimp -implicitDefEqProofs (disch := omega) [go_sem, -List.getD_eq_getElem?_getD, ite_yes, hlt, cs, h2, hp2]
      exact fin_same (by simp -dsimp -implicitDefEqProofs (disch := omega) [go_sem, -List.getD_eq_getElem?_getD, ite_yes, ht])
    · have h2 := place_lt l n k (by omega)
      simp -dsimp -implicitDefEqProofs (disch := omega) [go_sem, -List.getD_eq_getElem?_getD, ite_yes, hlt, cs, h2]
      exact LoopEnd.of (k + 1) (by omega) (by omega) (weakS_same (by simp -dsimp -implicitDefEqProofs (disch := omega) [go_sem, -List.getD_eq_getElem?_getD, ite_yes, ht]))
theorem l1Put_new (l : List Int) (n : Int) (hl : l.length ≤ 1048576) (hu : Up l) (hn : hasI l n = false) (c : Nat) (H : Heap) (t : Nat) (hS : Sl nmE H t l) (hz : blkSz H t = some 1) :
    AFunC Try.prog 64 [.slice (some ⟨t, 0, none⟩) l.length c, .int .i64 n] H (.slice (some ⟨H.length, 0, none⟩) (l.length + 1) (l.length + 1)) (H ++ [some ⟨(putL l n).flatMap nmE, true, 3, 1⟩]) := by
  refine AFunC.of_body Try.func64 (by kernel_rfl) rfl (by kernel_rfl) (by simp [Try.ntmps64]) ?_
  have ht := hS.lt
  have cs := fun k hk => hS.one (g := fun n => Value.int .i64 n) 0 k hk
  have hple := place_le l n
  have hpa := place_at l n
  have hno : ¬ (place l n < l.length ∧ l.getD (place l n) 0 = n) := fun h => by
    have := decide_eq_true (hu.mem_iff.2 h)
    rw [hasI] at hn; rw [hn] at this; cases this
  simp -dsimp -implicitDefEqProofs (disch := omega) [go_sem, -List.getD_eq_getElem?_getD, ite_yes]
  refine ALoop.intro (ι := Nat) (fun k => k ≤ place l n) (fun k => [(0, .slice (some ⟨t, 0, none⟩) l.length c), (1, .int .i64 n), (5, .int .i64 k)]) (fun _ => H) (fun k => l.length - k) 0 (by omega) ?_ ?_
  · exact weakS_same (by simp -dsimp -implicitDefEqProofs (disch := omega) [go_sem, -List.getD_eq_getElem?_getD, ite_yes, ht])
  · intro k hk
    by_cases h : k = place l n
    rotate_left
    · have h2 := place_lt l n k (by omega)
      have hlt : k < l.length := by omega
      simp -dsimp -implicitDefEqProofs (disch := omega) [go_sem, -List.getD_eq_getElem?_getD, ite_yes, hlt, cs, h2]
      exact LoopEnd.of (k + 1) (by omega) (by omega) (weakS_same (by simp -dsimp -implicitDefEqProofs (disch := omega) [go_sem, -List.getD_eq_getElem?_getD, ite_yes, ht]))
    have c1 := hS.cut (s := 1) (fun _ => rfl) 0 k (by omega)
    have c2 := hS.cut (s := 1) (fun _ => rfl) k (l.length - k) (by omega)
    have hput : putL l n = l.take k ++ n :: l.drop k := by rw [h, putL]
    simp only [Nat.mul_one, Nat.zero_mul, List.drop_zero] at c1 c2
    have e1 : (List.flatMap nmE (List.take k l)).length = k := by rw [nmE_length, List.length_take]; omega
    have e2 : List.take (l.length - k) (List.drop k l) = List.drop k l := List.take_of_length_le (by rw [List.length_drop]; omega)
    have e3 : (List.flatMap nmE (List.drop k l)).length = l.length - k := by rw [nmE_length, List.length_drop]; omega
    have e4 : k + 1 + (l.length - k) = l.length + 1 := by omega
    have hkl : k ≤ l.length := by omega
    rw [e2] at c2
    have efin : (List.flatMap nmE (putL l n)) = List.flatMap nmE (List.take k l) ++ Value.int .i64 n :: List.flatMap nmE (List.drop k l) := by
      rw [hput, List.flatMap_append, List.flatMap_cons]; rfl
    by_cases hlt : k < l.length
    · have h2 : ¬ l.getD k 0 < n := by rw [h] at hlt ⊢; have := hpa hlt; omega
      have h3 : ¬ l.getD k 0 = n := by rw [h] at hlt ⊢; exact fun h => hno ⟨hlt, h⟩
      simp -dsimp -implicitDefEqProofs (disch := omega) [go_sem, -List.getD_eq_getElem?_getD, ite_yes, hlt, cs, h2, h3, hz, ht]
      refine ADraw.any H (by kernel_rfl) (by first | exact SubH.refl | exact SubH.app | exact SubH.both (by simp [subL])) ?_
      refine AAny.takes (fuel := 6) (by kernel_rfl) (by kernel_rfl) [1, 2, 3, 5, 8, 9, 10] (by kernel_rfl) (by kernel_rfl) ?_
      simp -dsimp -implicitDefEqProofs (disch := omega) [go_sem, -List.getD_eq_getElem?_getD, ite_yes, hlt, hz, ht, c1, c2, e1, e3, e4, hkl]
      refine AAny.two 5 0 6 (by kernel_rfl) (by kernel_rfl) (by kernel_rfl) ?_ ?_
      · simp -dsimp -implicitDefEqProofs (disch := omega) [go_sem, -List.getD_eq_getElem?_getD, ite_yes, hlt, hz, ht, c1, c2, e1, e3, e4, hkl]
        first | refine AAt.of (by first | exact SubH.refl | exact SubH.app | exact SubH.both (by simp [subL])) ?_ | (refine ⟨?_, AAt.of (by first | exact SubH.refl | exact SubH.app | exact SubH.both (by simp [subL])) ?_⟩; · omega)
        refine AAny.two 4 4 6 (by kernel_rfl) (by kernel_rfl) (by kernel_rfl) ?_ ?_
        · simp -dsimp -implicitDefEqProofs (disch := omega) [go_sem, -List.getD_eq_getElem?_getD, ite_yes, hlt, hz, ht, c1, c2, e1, e3, e4, hkl]
          first | refine AAt.of (by first | exact SubH.refl | exact SubH.app | exact SubH.both (by simp [subL])) ?_ | (refine ⟨?_, AAt.of (by first | exact SubH.refl | exact SubH.app | exact SubH.both (by simp [subL])) ?_⟩; · omega)
          refine AAny.one 3 6 (by kernel_rfl) (by kernel_rfl) (by kernel_rfl) ?_
          simp -dsimp -implicitDefEqProofs (disch := omega) [go_sem, -List.getD_eq_getElem?_getD, ite_yes, hlt, hz, ht, c1, c2, e1, e3, e4, hkl]
          first | refine AAt.of (by first | exact SubH.refl | exact SubH.app | exact SubH.both (by simp [subL])) ?_ | (refine ⟨?_, AAt.of (by first | exact SubH.refl | exact SubH.app | exact SubH.both (by simp [subL])) ?_⟩; · omega)
          refine AAny.one 2 7 (by kernel_rfl) (by kernel_rfl) (by kernel_rfl) ?_
          simp -dsimp -implicitDefEqProofs (disch := omega) [go_sem, -List.getD_eq_getElem?_getD, ite_yes, hlt, hz, ht, c1, c2, e1, e3, e4, hkl]
          first | refine AAt.of (by first | exact SubH.refl | exact SubH.app | exact SubH.both (by simp [subL])) ?_ | (refine ⟨?_, AAt.of (by first | exact SubH.refl | exact SubH.app | exact SubH.both (by simp [subL])) ?_⟩; · omega)
          refine AAny.one 1 11 (by kernel_rfl) (by kernel_rfl) (by kernel_rfl) ?_
          simp -dsimp -implicitDefEqProofs (disch := omega) [go_sem, -List.getD_eq_getElem?_getD, ite_yes, hlt, hz, ht, c1, c2, e1, e3, e4, hkl]
          first | refine AAt.of (by first | exact SubH.refl | exact SubH.app | exact SubH.both (by simp [subL])) ?_ | (refine ⟨?_, AAt.of (by first | exact SubH.refl | exact SubH.app | exact SubH.both (by simp [subL])) ?_⟩; · omega)
          refine AAny.takes (fuel := 0) (by kernel_rfl) (by kernel_rfl) [12] (by kernel_rfl) (by kernel_rfl) ?_
          simp -dsimp -implicitDefEqProofs (disch := omega) [go_sem, -List.getD_eq_getElem?_getD, ite_yes, hlt, hz, ht, c1, c2, e1, e3, e4, hkl]
          refine AAny.done (by kernel_rfl) ?_
          simp -dsimp -implicitDefEqProofs (disch := omega) [go_sem, -List.getD_eq_getElem?_getD, ite_yes, hlt, hz, ht, c1, c2, e1, e3, e4, hkl]
          refine fin_list [some 4] rfl ?_ (by simp -dsimp -implicitDefEqProofs (disch := omega) [go_sem, -List.getD_eq_getElem?_getD, ite_yes, e4])
          simp -dsimp -implicitDefEqProofs (disch := omega) [go_sem, -List.getD_eq_getElem?_getD, ite_yes]
          exact .inl ⟨efin, efin ▸ nmE_flat _⟩
        · simp -dsimp -implicitDefEqProofs (disch := omega) [go_sem, -List.getD_eq_getElem?_getD, ite_yes, hlt, hz, ht, c1, c2, e1, e3, e4, hkl]
          first | refine AAt.of (by first | exact SubH.refl | exact SubH.app | exact SubH.both (by simp [subL])) ?_ | (refine ⟨?_, AAt.of (by first | exact SubH.refl | exact SubH.app | exact SubH.both (by simp [subL])) ?_⟩; · omega)
          refine AAny.one 3 4 (by kernel_rfl) (by kernel_rfl) (by kernel_rfl) ?_
          simp -dsimp -implicitDefEqProofs (disch := omega) [go_sem, -List.getD_eq_getElem?_getD, ite_yes, hlt, hz, ht, c1, c2, e1, e3, e4, hkl]
          first | refine AAt.of (by first | exact SubH.refl | exact SubH.app | exact SubH.both (by simp [subL])) ?_ | (refine ⟨?_, AAt.of (by first | exact SubH.refl | exact SubH.app | exact SubH.both (by simp [subL])) ?_⟩; · omega)
          refine AAny.one 2 7 (by kernel_rfl) (by kernel_rfl) (by kernel_rfl) ?_
          simp -dsimp -implicitDefEqProofs (disch := omega) [go_sem, -List.getD_eq_getElem?_getD, ite_yes, hlt, hz, ht, c1, c2, e1, e3, e4, hkl]
          first | refine AAt.of (by first | exact SubH.refl | exact SubH.app | exact SubH.both (by simp [subL])) ?_ | (refine ⟨?_, AAt.of (by first | exact SubH.refl | exact SubH.app | exact SubH.both (by simp [subL])) ?_⟩; · omega)
          refine AAny.one 1 11 (by kernel_rfl) (by kernel_rfl) (by kernel_rfl) ?_
          simp -dsimp -implicitDefEqProofs (disch := omega) [go_sem, -List.getD_eq_getElem?_getD, ite_yes, hlt, hz, ht, c1, c2, e1, e3, e4, hkl]
          first | refine AAt.of (by first | exact SubH.refl | exact SubH.app | exact SubH.both (by simp [subL])) ?_ | (refine ⟨?_, AAt.of (by first | exact SubH.refl | exact SubH.app | exact SubH.both (by simp [subL])) ?_⟩; · omega)
          refine AAny.takes (fuel := 0) (by kernel_rfl) (by kernel_rfl) [12] (by kernel_rfl) (by kernel_rfl) ?_
          simp -dsimp -implicitDefEqProofs (disch := omega) [go_sem, -List.getD_eq_getElem?_getD, ite_yes, hlt, hz, ht, c1, c2, e1, e3, e4, hkl]
          refine AAny.done (by kernel_rfl) ?_
          simp -dsimp -implicitDefEqProofs (disch := omega) [go_sem, -List.getD_eq_getElem?_getD, ite_yes, hlt, hz, ht, c1, c2, e1, e3, e4, hkl]
          refine fin_list [some 4] rfl ?_ (by simp -dsimp -implicitDefEqProofs (disch := omega) [go_sem, -List.getD_eq_getElem?_getD, ite_yes, e4])
          simp -dsimp -implicitDefEqProofs (disch := omega) [go_sem, -List.getD_eq_getElem?_getD, ite_yes]
          exact .inl ⟨efin, efin ▸ nmE_flat _⟩
      · simp -dsimp -implicitDefEqProofs (disch := omega) [go_sem, -List.getD_eq_getElem?_getD, ite_yes, hlt, hz, ht, c1, c2, e1, e3, e4, hkl]
        first | refine AAt.of (by first | exact SubH.refl | exact SubH.app | exact SubH.both (by simp [subL])) ?_ | (refine ⟨?_, AAt.of (by first | exact SubH.refl | exact SubH.app | exact SubH.both (by simp [subL])) ?_⟩; · omega)
        refine AAny.one 4 0 (by kernel_rfl) (by kernel_rfl) (by kernel_rfl) ?_
        simp -dsimp -implicitDefEqProofs (disch := omega) [go_sem, -List.getD_eq_getElem?_getD, ite_yes, hlt, hz, ht, c1, c2, e1, e3, e4, hkl]
        first | refine AAt.of (by first | exact SubH.refl | exact SubH.app | exact SubH.both (by simp [subL])) ?_ | (refine ⟨?_, AAt.of (by first | exact SubH.refl | exact SubH.app | exact SubH.both (by simp [subL])) ?_⟩; · omega)
        refine AAny.one 3 4 (by kernel_rfl) (by kernel_rfl) (by kernel_rfl) ?_
        simp -dsimp -implicitDefEqProofs (disch := omega) [go_sem, -List.getD_eq_getElem?_getD, ite_yes, hlt, hz, ht, c1, c2, e1, e3, e4, hkl]
        first | refine AAt.of (by first | exact SubH.refl | exact SubH.app | exact SubH.both (by simp [subL])) ?_ | (refine ⟨?_, AAt.of (by first | exact SubH.refl | exact SubH.app | exact SubH.both (by simp [subL])) ?_⟩; · omega)
        refine AAny.one 2 7 (by kernel_rfl) (by kernel_rfl) (by kernel_rfl) ?_
        simp -dsimp -implicitDefEqProofs (disch := omega) [go_sem, -List.getD_eq_getElem?_getD, ite_yes, hlt, hz, ht, c1, c2, e1, e3, e4, hkl]
        first | refine AAt.of (by first | exact SubH.refl | exact SubH.app | exact SubH.both (by simp [subL])) ?_ | (refine ⟨?_, AAt.of (by first | exact SubH.refl | exact SubH.app | exact SubH.both (by simp [subL])) ?_⟩; · omega)
        refine AAny.one 1 11 (by kernel_rfl) (by kernel_rfl) (by kernel_rfl) ?_
        simp -dsimp -implicitDefEqProofs (disch := omega) [go_sem, -List.getD_eq_getElem?_getD, ite_yes, hlt, hz, ht, c1, c2, e1, e3, e4, hkl]
        first | refine AAt.of (by first | exact SubH.refl | exact SubH.app | exact SubH.both (by simp [subL])) ?_ | (refine ⟨?_, AAt.of (by first | exact SubH.refl | exact SubH.app | exact SubH.both (by simp [subL])) ?_⟩; · omega)
        refine AAny.takes (fuel := 0) (by kernel_rfl) (by kernel_rfl) [12] (by kernel_rfl) (by kernel_rfl) ?_
        simp -dsimp -implicitDefEqProofs (disch := omega) [go_sem, -List.getD_eq_getElem?_getD, ite_yes, hlt, hz, ht, c1, c2, e1, e3, e4, hkl]
        refine AAny.done (by kernel_rfl) ?_
        simp -dsimp -implicitDefEqProofs (disch := omega) [go_sem, -List.getD_eq_getElem?_getD, ite_yes, hlt, hz, ht, c1, c2, e1, e3, e4, hkl]
        refine fin_list [some 4] rfl ?_ (by simp -dsimp -implicitDefEqProofs (disch := omega) [go_sem, -List.getD_eq_getElem?_getD, ite_yes, e4])
        simp -dsimp -implicitDefEqProofs (disch := omega) [go_sem, -List.getD_eq_getElem?_getD, ite_yes]
        exact .inl ⟨efin, efin ▸ nmE_flat _⟩
    · obtain rfl : k = l.length := by omega
      rw [Nat.sub_self] at c2 e3 e4
      rw [List.drop_length] at c2 efin
      rw [List.take_length] at c1 e1 efin
      simp only [List.flatMap_nil] at c2 efin
      simp -dsimp -implicitDefEqProofs (disch := omega) [go_sem, -List.getD_eq_getElem?_getD, ite_yes, hlt, hz, ht]
      refine ADraw.any H (by kernel_rfl) (by first | exact SubH.refl | exact SubH.app | exact SubH.both (by simp [subL])) ?_
      refine AAny.takes (fuel := 6) (by kernel_rfl) (by kernel_rfl) [1, 2, 3, 5, 8, 9, 10] (by kernel_rfl) (by kernel_rfl) ?_
      simp -dsimp -implicitDefEqProofs (disch := omega) [go_sem, -List.getD_eq_getElem?_getD, ite_yes, hlt, hz, ht, c1, c2, e1, e4, hkl]
      refine AAny.two 5 0 6 (by kernel_rfl) (by kernel_rfl) (by kernel_rfl) ?_ ?_
      · simp -dsimp -implicitDefEqProofs (disch := omega) [go_sem, -List.getD_eq_getElem?_getD, ite_yes, hlt, hz, ht, c1, c2, e1, e4, hkl]
        first | refine AAt.of (by first | exact SubH.refl | exact SubH.app | exact SubH.both (by simp [subL])) ?_ | (refine ⟨?_, AAt.of (by first | exact SubH.refl | exact SubH.app | exact SubH.both (by simp [subL])) ?_⟩; · omega)
        refine AAny.two 4 4 6 (by kernel_rfl) (by kernel_rfl) (by kernel_rfl) ?_ ?_
        · simp -dsimp -implicitDefEqProofs (disch := omega) [go_sem, -List.getD_eq_getElem?_getD, ite_yes, hlt, hz, ht, c1, c2, e1, e4, hkl]
          first | refine AAt.of (by first | exact SubH.refl | exact SubH.app | exact SubH.both (by simp [subL])) ?_ | (refine ⟨?_, AAt.of (by first | exact SubH.refl | exact SubH.app | exact SubH.both (by simp [subL])) ?_⟩; · omega)
          refine AAny.one 3 6 (by kernel_rfl) (by kernel_rfl) (by kernel_rfl) ?_
          simp -dsimp -implicitDefEqProofs (disch := omega) [go_sem, -List.getD_eq_getElem?_getD, ite_yes, hlt, hz, ht, c1, c2, e1, e4, hkl]
          first | refine AAt.of (by first | exact SubH.refl | exact SubH.app | exact SubH.both (by simp [subL])) ?_ | (refine ⟨?_, AAt.of (by first | exact SubH.refl | exact SubH.app | exact SubH.both (by simp [subL])) ?_⟩; · omega)
          refine AAny.one 2 7 (by kernel_rfl) (by kernel_rfl) (by kernel_rfl) ?_
          simp -dsimp -implicitDefEqProofs (disch := omega) [go_sem, -List.getD_eq_getElem?_getD, ite_yes, hlt, hz, ht, c1, c2, e1, e4, hkl]
          first | refine AAt.of (by first | exact SubH.refl | exact SubH.app | exact SubH.both (by simp [subL])) ?_ | (refine ⟨?_, AAt.of (by first | exact SubH.refl | exact SubH.app | exact SubH.both (by simp [subL])) ?_⟩; · omega)
          refine AAny.one 1 11 (by kernel_rfl) (by kernel_rfl) (by kernel_rfl) ?_
          simp -dsimp -implicitDefEqProofs (disch := omega) [go_sem, -List.getD_eq_getElem?_getD, ite_yes, hlt, hz, ht, c1, c2, e1, e4, hkl]
          first | refine AAt.of (by first | exact SubH.refl | exact SubH.app | exact SubH.both (by simp [subL])) ?_ | (refine ⟨?_, AAt.of (by first | exact SubH.refl | exact SubH.app | exact SubH.both (by simp [subL])) ?_⟩; · omega)
          refine AAny.takes (fuel := 0) (by kernel_rfl) (by kernel_rfl) [12] (by kernel_rfl) (by kernel_rfl) ?_
          simp -dsimp -implicitDefEqProofs (disch := omega) [go_sem, -List.getD_eq_getElem?_getD, ite_yes, hlt, hz, ht, c1, c2, e1, e4, hkl]
          refine AAny.done (by kernel_rfl) ?_
          simp -dsimp -implicitDefEqProofs (disch := omega) [go_sem, -List.getD_eq_getElem?_getD, ite_yes, hlt, hz, ht, c1, c2, e1, e4, hkl]
          refine fin_list [some 4] rfl ?_ (by simp -dsimp -implicitDefEqProofs (disch := omega) [go_sem, -List.getD_eq_getElem?_getD, ite_yes, e4])
          simp -dsimp -implicitDefEqProofs (disch := omega) [go_sem, -List.getD_eq_getElem?_getD, ite_yes]
          exact .inl ⟨efin, efin ▸ nmE_flat _⟩
        · simp -dsimp -implicitDefEqProofs (disch := omega) [go_sem, -List.getD_eq_getElem?_getD, ite_yes, hlt, hz, ht, c1, c2, e1, e4, hkl]
          first | refine AAt.of (by first | exact SubH.refl | exact SubH.app | exact SubH.both (by simp [subL])) ?_ | (refine ⟨?_, AAt.of (by first | exact SubH.refl | exact SubH.app | exact SubH.both (by simp [subL])) ?_⟩; · omega)
          refine AAny.one 3 4 (by kernel_rfl) (by kernel_rfl) (by kernel_rfl) ?_
          simp -dsimp -implicitDefEqProofs (disch := omega) [go_sem, -List.getD_eq_getElem?_getD, ite_yes, hlt, hz, ht, c1, c2, e1, e4, hkl]
          first | refine AAt.of (by first | exact SubH.refl | exact SubH.app | exact SubH.both (by simp [subL])) ?_ | (refine ⟨?_, AAt.of (by first | exact SubH.refl | exact SubH.app | exact SubH.both (by simp [subL])) ?_⟩; · omega)
          refine AAny.one 2 7 (by kernel_rfl) (by kernel_rfl) (by kernel_rfl) ?_
          simp -dsimp -implicitDefEqProofs (disch := omega) [go_sem, -List.getD_eq_getElem?_getD, ite_yes, hlt, hz, ht, c1, c2, e1, e4, hkl]
          first | refine AAt.of (by first | exact SubH.refl | exact SubH.app | exact SubH.both (by simp [subL])) ?_ | (refine ⟨?_, AAt.of (by first | exact SubH.refl | exact SubH.app | exact SubH.both (by simp [subL])) ?_⟩; · omega)
          refine AAny.one 1 11 (by kernel_rfl) (by kernel_rfl) (by kernel_rfl) ?_
          simp -dsimp -implicitDefEqProofs (disch := omega) [go_sem, -List.getD_eq_getElem?_getD, ite_yes, hlt, hz, ht, c1, c2, e1, e4, hkl]
          first | refine AAt.of (by first | exact SubH.refl | exact SubH.app | exact SubH.both (by simp [subL])) ?_ | (refine ⟨?_, AAt.of (by first | exact SubH.refl | exact SubH.app | exact SubH.both (by simp [subL])) ?_⟩; · omega)
          refine AAny.takes (fuel := 0) (by kernel_rfl) (by kernel_rfl) [12] (by kernel_rfl) (by kernel_rfl) ?_
          simp -dsimp -implicitDefEqProofs (disch := omega) [go_sem, -List.getD_eq_getElem?_getD, ite_yes, hlt, hz, ht, c1, c2, e1, e4, hkl]
          refine AAny.done (by kernel_rfl) ?_
          simp -dsimp -implicitDefEqProofs (disch := omega) [go_sem, -List.getD_eq_getElem?_getD, ite_yes, hlt, hz, ht, c1, c2, e1, e4, hkl]
          refine fin_list [some 4] rfl ?_ (by simp -dsimp -implicitDefEqProofs (disch := omega) [go_sem, -List.getD_eq_getElem?_getD, ite_yes, e4])
          simp -dsimp -implicitDefEqProofs (disch := omega) [go_sem, -List.getD_eq_getElem?_getD, ite_yes]
          exact .inl ⟨efin, efin ▸ nmE_flat _⟩
      · simp -dsimp -implicitDefEqProofs (disch := omega) [go_sem, -List.getD_eq_getElem?_getD, ite_yes, hlt, hz, ht, c1, c2, e1, e4, hkl]
        first | refine AAt.of (by first | exact SubH.refl | exact SubH.app | exact SubH.both (by simp [subL])) ?_ | (refine ⟨?_, AAt.of (by first | exact SubH.refl | exact SubH.app | exact SubH.both (by simp [subL])) ?_⟩; · omega)
        refine AAny.one 4 0 (by kernel_rfl) (by kernel_rfl) (by kernel_rfl) ?_
        simp -dsimp -implicitDefEqProofs (disch := omega) [go_sem, -List.getD_eq_getElem?_getD, ite_yes, hlt, hz, ht, c1, c2, e1, e4, hkl]
        first | refine AAt.of (by first | exact SubH.refl | exact SubH.app | exact SubH.both (by simp [subL])) ?_ | (refine ⟨?_, AAt.of (by first | exact SubH.refl | exact SubH.app | exact SubH.both (by simp [subL])) ?_⟩; · omega)
        refine AAny.one 3 4 (by kernel_rfl) (by kernel_rfl) (by kernel_rfl) ?_
        simp -dsimp -implicitDefEqProofs (disch := omega) [go_sem, -List.getD_eq_getElem?_getD, ite_yes, hlt, hz, ht, c1, c2, e1, e4, hkl]
        first | refine AAt.of (by first | exact SubH.refl | exact SubH.app | exact SubH.both (by simp [subL])) ?_ | (refine ⟨?_, AAt.of (by first | exact SubH.refl | exact SubH.app | exact SubH.both (by simp [subL])) ?_⟩; · omega)
        refine AAny.one 2 7 (by kernel_rfl) (by kernel_rfl) (by kernel_rfl) ?_
        simp -dsimp -implicitDefEqProofs (disch := omega) [go_sem, -List.getD_eq_getElem?_getD, ite_yes, hlt, hz, ht, c1, c2, e1, e4, hkl]
        first | refine AAt.of (by first | exact SubH.refl | exact SubH.app | exact SubH.both (by simp [subL])) ?_ | (refine ⟨?_, AAt.of (by first | exact SubH.refl | exact SubH.app | exact SubH.both (by simp [subL])) ?_⟩; · omega)
        refine AAny.one 1 11 (by kernel_rfl) (by kernel_rfl) (by kernel_rfl) ?_
        simp -dsimp -implicitDefEqProofs (disch := omega) [go_sem, -List.getD_eq_getElem?_getD, ite_yes, hlt, hz, ht, c1, c2, e1, e4, hkl]
        first | refine AAt.of (by first | exact SubH.refl | exact SubH.app | exact SubH.both (by simp [subL])) ?_ | (refine ⟨?_, AAt.of (by first | exact SubH.refl | exact SubH.app | exact SubH.both (by simp [subL])) ?_⟩; · omega)
        refine AAny.takes (fuel := 0) (by kernel_rfl) (by kernel_rfl) [12] (by kernel_rfl) (by kernel_rfl) ?_
        simp -dsimp -implicitDefEqProofs (disch := omega) [go_sem, -List.getD_eq_getElem?_getD, ite_yes, hlt, hz, ht, c1, c2, e1, e4, hkl]
        refine AAny.done (by kernel_rfl) ?_
        simp -dsimp -implicitDefEqProofs (disch := omega) [go_sem, -List.getD_eq_getElem?_getD, ite_yes, hlt, hz, ht, c1, c2, e1, e4, hkl]
        refine fin_list [some 4] rfl ?_ (by simp -dsimp -implicitDefEqProofs (disch := omega) [go_sem, -List.getD_eq_getElem?_getD, ite_yes, e4])
        simp -dsimp -implicitDefEqProofs (disch := omega) [go_sem, -List.getD_eq_getElem?_getD, ite_yes]
        exact .inl ⟨efin, efin ▸ nmE_flat _⟩
def shutAt (id nd : Int) (v : Vl) : Bool := decide (v.2.1 = id) && (decide (v.2.2.1 = nd) && v.2.2.2)
theorem l4Blocked_A (l : List Vl) (hl : l.length ≤ 1048577) (c : Nat) (id nd : Int) (H : Heap) (t : Nat) (hS : Sl vlE H t l) :
    AFunC Try.prog 63 [.slice (some ⟨t, 0, none⟩) l.length c, .int .i64 id, .int .i64 nd, .bool true] H (.bool (decide (0 ≤ ixOf (shutAt id nd) l))) H := by
  refine AFunC.of_body Try.func63 (by kernel_rfl) rfl (by kernel_rfl) (by simp [Try.ntmps63]) ?_
  have ht := hS.lt
  have c1 := fun k hk => hS.cell (s := 4) (fun _ => rfl) vl0 k 1 hk (by omega)
  have c2 := fun k hk => hS.cell (s := 4) (fun _ => rfl) vl0 k 2 hk (by omega)
  have c3 := fun k hk => hS.cell (s := 4) (fun _ => rfl) vl0 k 3 hk (by omega)
  simp only [vlE] at c1 c2 c3
  have hr := found_ix vl0 (shutAt id nd) l
  simp -dsimp -implicitDefEqProofs (disch := omega) [go_sem, -List.getD_eq_getElem?_getD, ite_yes]
  refine ALoop.intro (ι := Nat) (fun k => k ≤ l.length ∧ findTo vl0 (shutAt id nd) l k) (fun k => [(0, .slice (some ⟨t, 0, none⟩) l.length c), (1, .int .i64 id), (2, .int .i64 nd), (3, .bool true), (9, .int .i64 k)]) (fun _ => H) (fun k => l.length - k) 0 ⟨by omega, fun i hi => by omega⟩ ?_ ?_
  · exact weakS_same (by simp -dsimp -implicitDefEqProofs (disch := omega) [go_sem, -List.getD_eq_getElem?_getD, ite_yes, ht])
  · rintro k ⟨hk, hf⟩
    by_cases hlt : k < l.length
    · by_cases h1 : (l.getD k vl0).2.1 = id
      · by_cases h2 : (l.getD k vl0).2.2.1 = nd
        · cases h3 : (l.getD k vl0).2.2.2
          · simp -dsimp -implicitDefEqProofs (disch := omega) [go_sem, -List.getD_eq_getElem?_getD, ite_yes, hlt, c1, c2, c3, h1, h2, h3]
            exact LoopEnd.of (k + 1) ⟨by omega, hf.next (by simp only [shutAt, h3, Bool.and_false])⟩ (by omega) (weakS_same (by simp -dsimp -implicitDefEqProofs (disch := omega) [go_sem, -List.getD_eq_getElem?_getD, ite_yes, ht]))
          · simp -dsimp -implicitDefEqProofs (disch := omega) [go_sem, -List.getD_eq_getElem?_getD, ite_yes, hlt, c1, c2, c3, h1, h2, h3]
            have := found_uniq hr (.yes k hlt (by simp only [shutAt, decide_eq_true h1, decide_eq_true h2, h3, Bool.and_self]) hf)
            exact fin_flat0 rfl (by rw [this, decide_eq_true (by omega)])
        · simp -dsimp -implicitDefEqProofs (disch := omega) [go_sem, -List.getD_eq_getElem?_getD, ite_yes, hlt, c1, c2, c3, h1, h2]
          exact LoopEnd.of (k + 1) ⟨by omega, hf.next (by simp only [shutAt, decide_eq_false h2, Bool.false_and, Bool.and_false])⟩ (by omega) (weakS_same (by simp -dsimp -implicitDefEqProofs (disch := omega) [go_sem, -List.getD_eq_getElem?_getD, ite_yes, ht]))
      · simp -dsimp -implicitDefEqProofs (disch := omega) [go_sem, -List.getD_eq_getElem?_getD, ite_yes, hlt, c1, c2, c3, h1]
        exact LoopEnd.of (k + 1) ⟨by omega, hf.next (by simp only [shutAt, decide_eq_false h1, Bool.false_and])⟩ (by omega) (weakS_same (by simp -dsimp -implicitDefEqProofs (disch := omega) [go_sem, -List.getD_eq_getElem?_getD, ite_yes, ht]))
    · simp -dsimp -implicitDefEqProofs (disch := omega) [go_sem, -List.getD_eq_getElem?_getD, ite_yes, hlt]
      obtain rfl : k = l.length := by omega
      have := found_uniq hr (.no hf)
      exact fin_flat0 rfl (by rw [this]; rfl)
end Go.Proofs.Ytamkdgjagjpmlaa
