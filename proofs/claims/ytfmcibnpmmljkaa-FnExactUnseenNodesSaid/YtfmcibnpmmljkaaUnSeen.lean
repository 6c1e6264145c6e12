/- UnseenNodes: the sort by insertion. -/
import Derived.Test.YtfmcibnpmmljkaaUnSort
import Derived.Test.YtfmcibnpmmljkaaAm15
namespace Go.Proofs.Ytfmcibnpmmljkaa
open Go.Am
set_option linter.unusedVariables false
set_option linter.unusedSimpArgs false
set_option maxRecDepth 100000
set_option maxHeartbeats 4000000

theorem insUn_A (l : List Al) (hl8 : l.length ≤ 8) (c e : Nat) (H : Heap) (t : Nat) (hb : H.get t = some ⟨l.flatMap alE, true, e, 4⟩) :
    AFunC Try.prog 71 [.slice (some ⟨t, 0, none⟩) l.length c, .int .i64 0, .int .i64 l.length, .func (.func 32) #[] #[]] H (.tuple #[]) (H.set t (some ⟨(sortA l).flatMap alE, true, e, 4⟩)) := by
  refine AFunC.of_body Try.func71 (by kernel_rfl) rfl (by kernel_rfl) (by simp [Try.ntmps71]) ?_
  have ht := Heap.get_lt hb
  have gs := fun x => Heap.get_set_self (H := H) ht (x := x)
  have e0 : l.length ≠ 0 → outA l 1 = l := fun h => by
    unfold outA
    rw [ordA, insA]
    cases l with
    | nil => exact absurd rfl h
    | cons x l => simp [ordA, posA]
  simp -dsimp -implicitDefEqProofs (disch := omega) [go_sem, -List.getD_eq_getElem?_getD, ite_yes, ht]
  refine ALoop.intro (ι := Nat) (fun i => 1 ≤ i ∧ i ≤ max l.length 1) (fun i => [(0, .slice (some ⟨t, 0, none⟩) l.length c), (1, .int .i64 0), (2, .int .i64 l.length), (3, .func (.func 32) #[] #[]), (8, .int .i64 i)])
    (fun i => H.set t (some ⟨(if l.length = 0 then [] else outA l i).flatMap alE, true, e, 4⟩)) (fun i => l.length - i) 1 (by omega) ?_ ?_
  · refine weakS_set ht (alE_flat _) rfl ?_ (by simp -dsimp -implicitDefEqProofs (disch := omega) [go_sem, -List.getD_eq_getElem?_getD, ite_yes, ht])
    have : (if l.length = 0 then [] else outA l 1) = l := by
      by_cases h : l.length = 0
      · rw [if_pos h]; exact (List.eq_nil_of_length_eq_zero h).symm
      · rw [if_neg h]; exact e0 h
    rw [this]; exact (Heap.set_self hb).symm
  rintro i ⟨hi1, hi2⟩
  by_cases hlt : i < l.length
  rotate_left
  · have hlti : ¬ (i : Int) < (l.length : Int) := by omega
    have he : (if l.length = 0 then [] else outA l i) = sortA l := by
      by_cases h : l.length = 0
      · rw [if_pos h]; unfold sortA; rw [h]; rfl
      · rw [if_neg h]
        have : i = l.length := by omega
        subst this
        unfold outA sortA; rw [List.drop_length, List.append_nil]
    rw [he]
    simp -dsimp -implicitDefEqProofs (disch := omega) [go_sem, -List.getD_eq_getElem?_getD, ite_yes, hlti, hlt]
    exact fin_set ht (alE_flat (sortA l)) rfl rfl rfl rfl
  have hlti : (i : Int) < (l.length : Int) := by omega
  have hn0 : l.length ≠ 0 := by omega
  have hol := ordA_length l i
  simp only [hn0, if_false]
  simp -dsimp -implicitDefEqProofs (disch := omega) [go_sem, -List.getD_eq_getElem?_getD, ite_yes, hlti, hlt, ht]
  refine ALoop.intro (ι := Nat) (fun j => j ≤ i ∧ posA (ordA l i) (l.getD i alD) i = posA (ordA l i) (l.getD i alD) j) (fun j => [(0, .slice (some ⟨t, 0, none⟩) l.length c), (1, .int .i64 0), (2, .int .i64 l.length), (3, .func (.func 32) #[] #[]), (8, .int .i64 i), (9, .int .i64 j)])
    (fun j => H.set t (some ⟨(midA l i j).flatMap alE, true, e, 4⟩)) (fun j => j) i ⟨Nat.le_refl _, rfl⟩ ?_ ?_
  · exact weakS_set ht (alE_flat _) rfl (by rw [outA_mid hlt]) (by simp -dsimp -implicitDefEqProofs (disch := omega) [go_sem, -List.getD_eq_getElem?_getD, ite_yes, ht])
  rintro j ⟨hj, hpos⟩
  have hend : posA (ordA l i) (l.getD i alD) j = j → midA l i j = outA l (i + 1) := fun h => by rw [← midA_out, hpos, h]
  have hset : ∀ m : List Al, m = outA l (i + 1) → H.set t (some ⟨m.flatMap alE, true, e, 4⟩) = H.set t (some ⟨(outA l (i + 1)).flatMap alE, true, e, 4⟩) := fun m h => by rw [h]
  cases j with
  | zero =>
    have hm := hend rfl
    obtain ⟨M, hM⟩ : ∃ M, midA l i 0 = M := ⟨_, rfl⟩
    rw [hM] at hm ⊢
    simp -dsimp -implicitDefEqProofs (disch := omega) [go_sem, -List.getD_eq_getElem?_getD, ite_yes, ht]
    refine ADraw.quiet (by kernel_rfl) (by kernel_rfl) (by kernel_rfl) ?_
    simp -dsimp -implicitDefEqProofs (disch := omega) [go_sem, -List.getD_eq_getElem?_getD, ite_yes, ht]
    exact LoopEnd.of (i + 1) (by omega) (by omega) (weakS_set ht (alE_flat _) rfl (hset M hm) (by simp -dsimp -implicitDefEqProofs (disch := omega) [go_sem, -List.getD_eq_getElem?_getD, ite_yes, ht]))
  | succ j =>
  have hjl : j < (ordA l i).length := by omega
  have htl : ((ordA l i).take j).length = j := by rw [List.length_take]; omega
  obtain ⟨y, hy⟩ : ∃ y, (ordA l i)[j] = y := ⟨_, rfl⟩
  have hyd : (ordA l i).getD j alD = y := by rw [List.getD_eq_getElem?_getD, List.getElem?_eq_getElem hjl]; exact hy
  have hp : posA (ordA l i) (l.getD i alD) (j + 1) = if (l.getD i alD).2.2.1 < y.2.2.1 then posA (ordA l i) (l.getD i alD) j else j + 1 := by rw [posA, hyd]
  have eM : midA l i (j + 1) = (ordA l i).take j ++ y :: l.getD i alD :: ((ordA l i).drop (j + 1) ++ l.drop (i + 1)) := by
    unfold midA
    rw [List.take_succ_eq_append_getElem hjl, hy, List.append_assoc]; rfl
  have eM2 : midA l i j = (ordA l i).take j ++ l.getD i alD :: y :: ((ordA l i).drop (j + 1) ++ l.drop (i + 1)) := by
    unfold midA
    rw [List.drop_eq_getElem_cons hjl, hy, List.cons_append]
  have hlen : (midA l i (j + 1)).length = l.length := by
    rw [eM]; simp only [List.length_append, List.length_cons, List.length_drop, htl]; omega
  generalize l.getD i alD = x at hpos hp eM eM2 hend
  have hfl : ((midA l i (j + 1)).flatMap alE).length = l.length * 4 := by rw [alE_length, hlen]
  have ca : aCells (H.set t (some ⟨(midA l i (j + 1)).flatMap alE, true, e, 4⟩)) ⟨t, (j + 1) * 4, none⟩ 4 = some (alE x) := by
    have h9 := al_at ((ordA l i).take j ++ [y]) ((ordA l i).drop (j + 1) ++ l.drop (i + 1)) x
    rw [List.append_assoc, List.length_append, htl] at h9
    rw [aCells_eq, gs, aC1]
    simp only [hfl]
    rw [if_pos (by omega), eM]
    exact congrArg some h9
  have cb : aCells (H.set t (some ⟨(midA l i (j + 1)).flatMap alE, true, e, 4⟩)) ⟨t, j * 4, none⟩ 4 = some (alE y) := by
    have h9 := al_at ((ordA l i).take j) (x :: ((ordA l i).drop (j + 1) ++ l.drop (i + 1))) y
    rw [htl] at h9
    rw [aCells_eq, gs, aC1]
    simp only [hfl]
    rw [if_pos (by omega), eM]
    exact congrArg some h9
  obtain ⟨M1, hM1⟩ : ∃ M, (ordA l i).take j ++ y :: y :: ((ordA l i).drop (j + 1) ++ l.drop (i + 1)) = M := ⟨_, rfl⟩
  have s1 : ((midA l i (j + 1)).flatMap alE).take ((j + 1) * 4) ++ (alE y ++ ((midA l i (j + 1)).flatMap alE).drop ((j + 1) * 4 + 4)) = M1.flatMap alE := by
    have h9 := al_put ((ordA l i).take j ++ [y]) ((ordA l i).drop (j + 1) ++ l.drop (i + 1)) x y
    rw [List.append_assoc, List.length_append, htl, List.append_assoc] at h9
    rw [eM, ← hM1]
    exact h9.symm
  have s2 : (M1.flatMap alE).take (j * 4) ++ (alE x ++ (M1.flatMap alE).drop (j * 4 + 4)) = (midA l i j).flatMap alE := by
    have h9 := al_put ((ordA l i).take j) (y :: ((ordA l i).drop (j + 1) ++ l.drop (i + 1))) y x
    rw [htl] at h9
    rw [eM2, ← hM1]
    exact h9.symm
  have hfl2 : (M1.flatMap alE).length = l.length * 4 := by
    rw [← s1]
    simp only [List.length_append, List.length_take, List.length_drop, hfl, alE, List.length_cons, List.length_nil]
    omega
  have C := unCmp_A x y (roH (H.set t (some ⟨(midA l i (j + 1)).flatMap alE, true, e, 4⟩)))
  simp only [alE, List.cons_append, List.nil_append] at ca cb s1 s2
  obtain ⟨M, hM⟩ : ∃ M, midA l i (j + 1) = M := ⟨_, rfl⟩
  rw [hM] at hend hfl ca cb s1 C ⊢
  have hj0 : j < l.length := by omega
  have hj1 : j + 1 < l.length := by omega
  simp -dsimp -implicitDefEqProofs (disch := omega) [go_sem, -List.getD_eq_getElem?_getD, ite_yes, ht]
  refine ADraw.quiet (by kernel_rfl) (by kernel_rfl) (by kernel_rfl) ?_
  simp -dsimp -implicitDefEqProofs (disch := omega) [go_sem, -List.getD_eq_getElem?_getD, ite_yes, ht, hj0, hj1, ca, cb]
  refine ACallQ.of C rfl ?_
  by_cases hxy : x.2.2.1 < y.2.2.1
  · rw [if_pos hxy] at hp
    rw [hp] at hpos
    have hc : cmpI x.2.2.1 y.2.2.1 = -1 := if_pos hxy
    rw [hc]
    simp -dsimp -implicitDefEqProofs (disch := omega) [go_sem, -List.getD_eq_getElem?_getD, ite_yes, ht]
    refine ADraw.any [] (by kernel_rfl) (SubH.nil) ?_
    refine AAny.takes (fuel := 6) (by kernel_rfl) (by kernel_rfl) [0, 1, 2, 3, 4, 5, 6, 7, 8, 10, 11, 12] (by kernel_rfl) (by kernel_rfl) ?_
    simp -dsimp -implicitDefEqProofs (disch := omega) [go_sem, -List.getD_eq_getElem?_getD, ite_yes, ht, hj0, hj1, ca, cb, gs, hfl, hfl2, s1, s2, List.set_set]
    refine AAny.two 5 9 13 (by kernel_rfl) (by kernel_rfl) (by kernel_rfl) ?_ ?_
    · simp -dsimp -implicitDefEqProofs (disch := omega) [go_sem, -List.getD_eq_getElem?_getD, ite_yes, ht, hj0, hj1, ca, cb, gs, hfl, hfl2, s1, s2, List.set_set]
      first | refine AAt.of (SubH.nil) ?_ | (refine ⟨?_, AAt.of (SubH.nil) ?_⟩; · omega)
      refine AAny.one 4 13 (by kernel_rfl) (by kernel_rfl) (by kernel_rfl) ?_
      simp -dsimp -implicitDefEqProofs (disch := omega) [go_sem, -List.getD_eq_getElem?_getD, ite_yes, ht, hj0, hj1, ca, cb, gs, hfl, hfl2, s1, s2, List.set_set]
      first | refine AAt.of (SubH.nil) ?_ | (refine ⟨?_, AAt.of (SubH.nil) ?_⟩; · omega)
      refine AAny.takes (fuel := 3) (by kernel_rfl) (by kernel_rfl) [14] (by kernel_rfl) (by kernel_rfl) ?_
      simp -dsimp -implicitDefEqProofs (disch := omega) [go_sem, -List.getD_eq_getElem?_getD, ite_yes, ht, hj0, hj1, ca, cb, gs, hfl, hfl2, s1, s2, List.set_set]
      refine AAny.one 2 15 (by kernel_rfl) (by kernel_rfl) (by kernel_rfl) ?_
      simp -dsimp -implicitDefEqProofs (disch := omega) [go_sem, -List.getD_eq_getElem?_getD, ite_yes, ht, hj0, hj1, ca, cb, gs, hfl, hfl2, s1, s2, List.set_set]
      first | refine AAt.of (SubH.nil) ?_ | (refine ⟨?_, AAt.of (SubH.nil) ?_⟩; · omega)
      refine AAny.takes (fuel := 1) (by kernel_rfl) (by kernel_rfl) [16] (by kernel_rfl) (by kernel_rfl) ?_
      simp -dsimp -implicitDefEqProofs (disch := omega) [go_sem, -List.getD_eq_getElem?_getD, ite_yes, ht, hj0, hj1, ca, cb, gs, hfl, hfl2, s1, s2, List.set_set]
      refine AAny.one 0 17 (by kernel_rfl) (by kernel_rfl) (by kernel_rfl) ?_
      simp -dsimp -implicitDefEqProofs (disch := omega) [go_sem, -List.getD_eq_getElem?_getD, ite_yes, ht, hj0, hj1, ca, cb, gs, hfl, hfl2, s1, s2, List.set_set]
      first | refine AAt.of (SubH.nil) ?_ | (refine ⟨?_, AAt.of (SubH.nil) ?_⟩; · omega)
      refine AAny.done (by kernel_rfl) ?_
      simp -dsimp -implicitDefEqProofs (disch := omega) [go_sem, -List.getD_eq_getElem?_getD, ite_yes, ht, hj0, hj1, ca, cb, gs, hfl, hfl2, s1, s2, List.set_set]
      exact LoopEnd.of j ⟨by omega, hpos⟩ (by omega) (weakS_set (b := ⟨(midA l i j).flatMap alE, true, e, 4⟩) ht (alE_flat _) rfl (by simp [s1, s2]) (by simp -dsimp -implicitDefEqProofs (disch := omega) [go_sem, -List.getD_eq_getElem?_getD, ite_yes, ht]))
    · simp -dsimp -implicitDefEqProofs (disch := omega) [go_sem, -List.getD_eq_getElem?_getD, ite_yes, ht, hj0, hj1, ca, cb, gs, hfl, hfl2, s1, s2, List.set_set]
      first | refine AAt.of (SubH.nil) ?_ | (refine ⟨?_, AAt.of (SubH.nil) ?_⟩; · omega)
      refine AAny.one 4 9 (by kernel_rfl) (by kernel_rfl) (by kernel_rfl) ?_
      simp -dsimp -implicitDefEqProofs (disch := omega) [go_sem, -List.getD_eq_getElem?_getD, ite_yes, ht, hj0, hj1, ca, cb, gs, hfl, hfl2, s1, s2, List.set_set]
      first | refine AAt.of (SubH.nil) ?_ | (refine ⟨?_, AAt.of (SubH.nil) ?_⟩; · omega)
      refine AAny.takes (fuel := 3) (by kernel_rfl) (by kernel_rfl) [14] (by kernel_rfl) (by kernel_rfl) ?_
      simp -dsimp -implicitDefEqProofs (disch := omega) [go_sem, -List.getD_eq_getElem?_getD, ite_yes, ht, hj0, hj1, ca, cb, gs, hfl, hfl2, s1, s2, List.set_set]
      refine AAny.one 2 15 (by kernel_rfl) (by kernel_rfl) (by kernel_rfl) ?_
      simp -dsimp -implicitDefEqProofs (disch := omega) [go_sem, -List.getD_eq_getElem?_getD, ite_yes, ht, hj0, hj1, ca, cb, gs, hfl, hfl2, s1, s2, List.set_set]
      first | refine AAt.of (SubH.nil) ?_ | (refine ⟨?_, AAt.of (SubH.nil) ?_⟩; · omega)
      refine AAny.takes (fuel := 1) (by kernel_rfl) (by kernel_rfl) [16] (by kernel_rfl) (by kernel_rfl) ?_
      simp -dsimp -implicitDefEqProofs (disch := omega) [go_sem, -List.getD_eq_getElem?_getD, ite_yes, ht, hj0, hj1, ca, cb, gs, hfl, hfl2, s1, s2, List.set_set]
      refine AAny.one 0 17 (by kernel_rfl) (by kernel_rfl) (by kernel_rfl) ?_
      simp -dsimp -implicitDefEqProofs (disch := omega) [go_sem, -List.getD_eq_getElem?_getD, ite_yes, ht, hj0, hj1, ca, cb, gs, hfl, hfl2, s1, s2, List.set_set]
      first | refine AAt.of (SubH.nil) ?_ | (refine ⟨?_, AAt.of (SubH.nil) ?_⟩; · omega)
      refine AAny.done (by kernel_rfl) ?_
      simp -dsimp -implicitDefEqProofs (disch := omega) [go_sem, -List.getD_eq_getElem?_getD, ite_yes, ht, hj0, hj1, ca, cb, gs, hfl, hfl2, s1, s2, List.set_set]
      exact LoopEnd.of j ⟨by omega, hpos⟩ (by omega) (weakS_set (b := ⟨(midA l i j).flatMap alE, true, e, 4⟩) ht (alE_flat _) rfl (by simp [s1, s2]) (by simp -dsimp -implicitDefEqProofs (disch := omega) [go_sem, -List.getD_eq_getElem?_getD, ite_yes, ht]))
  · rw [if_neg hxy] at hp
    have hc : ¬ cmpI x.2.2.1 y.2.2.1 < 0 := by unfold cmpI; rw [if_neg hxy]; split <;> omega
    simp -dsimp -implicitDefEqProofs (disch := omega) [go_sem, -List.getD_eq_getElem?_getD, ite_yes, ht, hc]
    exact LoopEnd.of (i + 1) (by omega) (by omega) (weakS_set ht (alE_flat _) rfl (hset M (hend hp)) (by simp -dsimp -implicitDefEqProofs (disch := omega) [go_sem, -List.getD_eq_getElem?_getD, ite_yes, ht]))
end Go.Proofs.Ytfmcibnpmmljkaa
