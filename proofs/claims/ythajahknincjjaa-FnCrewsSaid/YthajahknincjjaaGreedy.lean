/- GreedyAssignment: the order of the tasks, and the stable sort of numbers. -/
import Derived.Test.YthajahknincjjaaEndOf
import Derived.Test.YthajahknincjjaaAm17
namespace Go.Proofs.Ythajahknincjjaa
open Go.Am
set_option linter.unusedVariables false
set_option linter.unusedSimpArgs false
set_option maxRecDepth 100000
set_option maxHeartbeats 4000000

/-- the minutes of a task, by its number -/
def mi (l : List Tk) (x : Int) : Int := (l.getD x.toNat (0, 0, 0)).2.2
/-- where a task belongs among some: behind the last that is not shorter, of the first k -/
def posF (l : List Tk) (L : List Int) (x : Int) : Nat → Nat
  | 0 => 0
  | k + 1 => if mi l (L.getD k 0) < mi l x then posF l L x k else k + 1
theorem posF_le (l : List Tk) (L : List Int) (x : Int) : ∀ k, posF l L x k ≤ k
  | 0 => Nat.le_refl _
  | k + 1 => by have := posF_le l L x k; rw [posF]; split <;> omega
def insX (l : List Tk) (L : List Int) (x : Int) : List Int := L.take (posF l L x L.length) ++ x :: L.drop (posF l L x L.length)
def ordG (l : List Tk) : Nat → List Int
  | 0 => []
  | i + 1 => insX l (ordG l i) i
theorem ordG_length (l : List Tk) : ∀ i, (ordG l i).length = i
  | 0 => rfl
  | i + 1 => by
    have := ordG_length l i
    have := posF_le l (ordG l i) i (ordG l i).length
    rw [ordG, insX]
    simp only [List.length_append, List.length_take, List.length_cons, List.length_drop]
    omega
theorem ordG_mem (l : List Tk) : ∀ i, ∀ x ∈ ordG l i, ∃ j : Nat, x = (j : Int) ∧ j < i
  | 0, x, h => absurd h (by simp [ordG])
  | i + 1, x, h => by
    rw [ordG, insX] at h
    rcases List.mem_append.1 h with h | h
    · obtain ⟨j, e, hj⟩ := ordG_mem l i x (List.mem_of_mem_take h); exact ⟨j, e, by omega⟩
    · rcases List.mem_cons.1 h with h | h
      · exact ⟨i, h, by omega⟩
      · obtain ⟨j, e, hj⟩ := ordG_mem l i x (List.mem_of_mem_drop h); exact ⟨j, e, by omega⟩
/-- the numbers from i on, below n -/
def fromI (n i : Nat) : List Int := (List.range' i (n - i)).map Int.ofNat
theorem fromI_cons {n i : Nat} (h : i < n) : fromI n i = (i : Int) :: fromI n (i + 1) := by
  unfold fromI
  rw [show n - i = (n - (i + 1)) + 1 by omega, List.range'_succ]; rfl
theorem fromI_end (n : Nat) : fromI n n = [] := by unfold fromI; rw [Nat.sub_self]; rfl
theorem fromI_length (n i : Nat) : (fromI n i).length = n - i := by unfold fromI; simp
/-- the list within the sort: task i stands at j -/
def midG (l : List Tk) (i j : Nat) : List Int := (ordG l i).take j ++ (i : Int) :: ((ordG l i).drop j ++ fromI l.length (i + 1))
def outG (l : List Tk) (i : Nat) : List Int := ordG l i ++ fromI l.length i
theorem outG_mid {l : List Tk} {i : Nat} (h : i < l.length) : outG l i = midG l i i := by
  unfold outG midG
  rw [fromI_cons h, List.take_of_length_le (by rw [ordG_length]; omega), List.drop_of_length_le (by rw [ordG_length]; omega), List.nil_append]
theorem midG_out (l : List Tk) (i : Nat) : midG l i (posF l (ordG l i) i i) = outG l (i + 1) := by
  unfold outG midG
  rw [ordG, insX, ordG_length, List.append_assoc, List.cons_append]
theorem nm_at (A T : List Int) (y : Int) : List.take 1 (List.drop A.length ((A ++ y :: T).flatMap nmE)) = [.int .i64 y] := by
  have := nm_cell (A ++ y :: T) (q := A.length) (by simp)
  rw [this]; simp
theorem nm_put (A T : List Int) (y z : Int) : ((A ++ y :: T).flatMap nmE).set A.length (.int .i64 z) = (A ++ z :: T).flatMap nmE := by
  have := nm_set (A ++ y :: T) z (q := A.length) (by simp)
  rw [this]; simp
theorem aCells_roH {H : Heap} {t o n : Nat} : aCells (roH H) ⟨t, o, none⟩ n = aCells H ⟨t, o, none⟩ n := by
  rw [aCells_eq, aCells_eq, roH_get]
  cases H.get t <;> rfl
theorem greedy1_A (l : List Tk) (c : Nat) (x y : Nat) (hx : x < l.length) (hy : y < l.length) (H : Heap) (t b : Nat) (hS : Sl tkE H t l) (hb : b < H.length) (cb : aCells H ⟨b, 0, none⟩ 1 = some [.slice (some ⟨t, 0, none⟩) l.length c]) :
    AFunC Try.prog 36 [.int .i64 x, .int .i64 y, .pointer (some ⟨b, 0, none⟩)] H (.int .i64 (cmpI (mi l y) (mi l x))) H := by
  refine AFunC.of_body Try.func36 (by kernel_rfl) rfl (by kernel_rfl) (by simp [Try.ntmps36]) ?_
  have ht := hS.lt
  have c1 := hS.cell (s := 3) (fun _ => rfl) (0, 0, 0) x 2 hx (by omega)
  have c2 := hS.cell (s := 3) (fun _ => rfl) (0, 0, 0) y 2 hy (by omega)
  have hxi : (x : Int) < (l.length : Int) := by omega
  have hyi : (y : Int) < (l.length : Int) := by omega
  simp only [tkE] at c1 c2
  simp -dsimp -implicitDefEqProofs (disch := omega) [go_sem, -List.getD_eq_getElem?_getD, ite_yes, hb, cb]
  refine ADraw.quiet (by kernel_rfl) (by kernel_rfl) (by kernel_rfl) ?_
  simp -dsimp -implicitDefEqProofs (disch := omega) [go_sem, -List.getD_eq_getElem?_getD, ite_yes, hb, cb, hxi, hyi, hx, hy, c1, c2]
  refine ACallQ.of (compare_A _ _ _) rfl ?_
  simp -dsimp -implicitDefEqProofs (disch := omega) [go_sem, -List.getD_eq_getElem?_getD, ite_yes]
  exact fin_flat0 rfl (by simp [mi])
theorem insCmp_A (l : List Tk) (hl7 : l.length ≤ 7) (h1l : 1 ≤ l.length ∨ l.length = 0) (c cv e : Nat) (H : Heap) (t b tv : Nat) (hb : H.get t = some ⟨(outG l 0).flatMap nmE, true, e, 1⟩) (hS : Sl tkE H tv l) (hbl : b < H.length) (cb : aCells H ⟨b, 0, none⟩ 1 = some [.slice (some ⟨tv, 0, none⟩) l.length cv]) (hbt : b ≠ t) (hvt : tv ≠ t) :
    AFunC Try.prog 53 [.slice (some ⟨t, 0, none⟩) l.length c, .int .i64 0, .int .i64 l.length, .func (.func 36) #[] #[.pointer (some ⟨b, 0, none⟩)]] H (.tuple #[]) (H.set t (some ⟨(ordG l l.length).flatMap nmE, true, e, 1⟩)) := by
  refine AFunC.of_body Try.func53 (by kernel_rfl) rfl (by kernel_rfl) (by simp [Try.ntmps53]) ?_
  have ht := Heap.get_lt hb
  have gs := fun x => Heap.get_set_self (H := H) ht (x := x)
  have e0 : outG l 0 = outG l 1 ∨ l.length = 0 := by
    rcases h1l with h | h
    · left
      unfold outG
      rw [fromI_cons (show 0 < l.length by omega)]
      simp [ordG, insX, posF]
    · right; exact h
  simp -dsimp -implicitDefEqProofs (disch := omega) [go_sem, -List.getD_eq_getElem?_getD, ite_yes, ht, hbl]
  refine ALoop.intro (ι := Nat) (fun i => 1 ≤ i ∧ i ≤ max l.length 1) (fun i => [(0, .slice (some ⟨t, 0, none⟩) l.length c), (1, .int .i64 0), (2, .int .i64 l.length), (3, .func (.func 36) #[] #[.pointer (some ⟨b, 0, none⟩)]), (8, .int .i64 i)])
    (fun i => H.set t (some ⟨(if l.length = 0 then [] else outG l i).flatMap nmE, true, e, 1⟩)) (fun i => l.length - i) 1 (by omega) ?_ ?_
  · refine weakS_set ht (nmE_flat _) rfl ?_ (by simp -dsimp -implicitDefEqProofs (disch := omega) [go_sem, -List.getD_eq_getElem?_getD, ite_yes, ht, hbl])
    have : (if l.length = 0 then [] else outG l 1) = outG l 0 := by
      by_cases h : l.length = 0
      · rw [if_pos h]; unfold outG; rw [h]; rfl
      · rw [if_neg h]; exact (e0.resolve_right h).symm
    rw [this]; exact (Heap.set_self hb).symm
  rintro i ⟨hi1, hi2⟩
  by_cases hlt : i < l.length
  rotate_left
  · have hlti : ¬ (i : Int) < (l.length : Int) := by omega
    have he : (if l.length = 0 then [] else outG l i) = ordG l l.length := by
      by_cases h : l.length = 0
      · rw [if_pos h, h]; rfl
      · rw [if_neg h]
        have : i = l.length := by omega
        subst this
        unfold outG; rw [fromI_end, List.append_nil]
    rw [he]
    simp -dsimp -implicitDefEqProofs (disch := omega) [go_sem, -List.getD_eq_getElem?_getD, ite_yes, hlti, hlt]
    exact fin_set ht (nmE_flat (ordG l l.length)) rfl rfl rfl rfl
  have hlti : (i : Int) < (l.length : Int) := by omega
  have hn0 : l.length ≠ 0 := by omega
  have hol := ordG_length l i
  simp only [hn0, if_false]
  simp -dsimp -implicitDefEqProofs (disch := omega) [go_sem, -List.getD_eq_getElem?_getD, ite_yes, hlti, hlt, ht, hbl]
  refine ALoop.intro (ι := Nat) (fun j => j ≤ i ∧ posF l (ordG l i) i i = posF l (ordG l i) i j) (fun j => [(0, .slice (some ⟨t, 0, none⟩) l.length c), (1, .int .i64 0), (2, .int .i64 l.length), (3, .func (.func 36) #[] #[.pointer (some ⟨b, 0, none⟩)]), (8, .int .i64 i), (9, .int .i64 j)])
    (fun j => H.set t (some ⟨(midG l i j).flatMap nmE, true, e, 1⟩)) (fun j => j) i ⟨Nat.le_refl _, rfl⟩ ?_ ?_
  · exact weakS_set ht (nmE_flat _) rfl (by rw [outG_mid hlt]) (by simp -dsimp -implicitDefEqProofs (disch := omega) [go_sem, -List.getD_eq_getElem?_getD, ite_yes, ht, hbl])
  rintro j ⟨hj, hpos⟩
  have hend : posF l (ordG l i) i j = j → midG l i j = outG l (i + 1) := fun h => by rw [← midG_out, hpos, h]
  have hset : ∀ m : List Int, m = outG l (i + 1) → H.set t (some ⟨m.flatMap nmE, true, e, 1⟩) = H.set t (some ⟨(outG l (i + 1)).flatMap nmE, true, e, 1⟩) := fun m h => by rw [h]
  cases j with
  | zero =>
    have hm := hend rfl
    obtain ⟨M, hM⟩ : ∃ M, midG l i 0 = M := ⟨_, rfl⟩
    rw [hM] at hm ⊢
    simp -dsimp -implicitDefEqProofs (disch := omega) [go_sem, -List.getD_eq_getElem?_getD, ite_yes, ht, hbl]
    refine ADraw.quiet (by kernel_rfl) (by kernel_rfl) (by kernel_rfl) ?_
    simp -dsimp -implicitDefEqProofs (disch := omega) [go_sem, -List.getD_eq_getElem?_getD, ite_yes, ht, hbl]
    exact LoopEnd.of (i + 1) (by omega) (by omega) (weakS_set ht (nmE_flat _) rfl (hset M hm) (by simp -dsimp -implicitDefEqProofs (disch := omega) [go_sem, -List.getD_eq_getElem?_getD, ite_yes, ht, hbl]))
  | succ j =>
  have hjl : j < (ordG l i).length := by omega
  obtain ⟨y, hy, hyi⟩ := ordG_mem l i ((ordG l i).getD j 0) (by rw [List.getD_eq_getElem?_getD, List.getElem?_eq_getElem hjl]; exact List.getElem_mem hjl)
  have hcell : (ordG l i)[j] = (y : Int) := by
    rw [List.getD_eq_getElem?_getD, List.getElem?_eq_getElem hjl] at hy; exact hy
  have htl : ((ordG l i).take j).length = j := by rw [List.length_take]; omega
  have eM : midG l i (j + 1) = (ordG l i).take j ++ (y : Int) :: (i : Int) :: ((ordG l i).drop (j + 1) ++ fromI l.length (i + 1)) := by
    unfold midG
    rw [List.take_succ_eq_append_getElem hjl, hcell, List.append_assoc]; rfl
  have eM2 : midG l i j = (ordG l i).take j ++ (i : Int) :: (y : Int) :: ((ordG l i).drop (j + 1) ++ fromI l.length (i + 1)) := by
    unfold midG
    rw [List.drop_eq_getElem_cons hjl, hcell, List.cons_append]
  have hlen : (midG l i (j + 1)).length = l.length := by
    rw [eM]; simp only [List.length_append, List.length_cons, List.length_drop, htl, fromI_length]; omega
  have hp : posF l (ordG l i) i (j + 1) = if mi l (y : Int) < mi l (i : Int) then posF l (ordG l i) i j else j + 1 := by rw [posF, hy]
  have hfl : ((midG l i (j + 1)).flatMap nmE).length = l.length := by rw [nmE_length, hlen]; omega
  have ca : aCells (H.set t (some ⟨(midG l i (j + 1)).flatMap nmE, true, e, 1⟩)) ⟨t, j + 1, none⟩ 1 = some [.int .i64 i] := by
    have h9 := nm_at ((ordG l i).take j ++ [(y : Int)]) ((ordG l i).drop (j + 1) ++ fromI l.length (i + 1)) (i : Int)
    rw [List.append_assoc, List.length_append, htl] at h9
    rw [aCells_eq, gs, aC1]
    simp only [hfl]
    rw [if_pos (by omega), eM]
    exact congrArg some h9
  have cbb : aCells (H.set t (some ⟨(midG l i (j + 1)).flatMap nmE, true, e, 1⟩)) ⟨t, j, none⟩ 1 = some [.int .i64 y] := by
    have h9 := nm_at ((ordG l i).take j) ((i : Int) :: ((ordG l i).drop (j + 1) ++ fromI l.length (i + 1))) (y : Int)
    rw [htl] at h9
    rw [aCells_eq, gs, aC1]
    simp only [hfl]
    rw [if_pos (by omega), eM]
    exact congrArg some h9
  obtain ⟨M1, hM1⟩ : ∃ M, (ordG l i).take j ++ (y : Int) :: (y : Int) :: ((ordG l i).drop (j + 1) ++ fromI l.length (i + 1)) = M := ⟨_, rfl⟩
  have s1 : ((midG l i (j + 1)).flatMap nmE).set (j + 1) (.int .i64 y) = M1.flatMap nmE := by
    have h9 := nm_put ((ordG l i).take j ++ [(y : Int)]) ((ordG l i).drop (j + 1) ++ fromI l.length (i + 1)) (i : Int) (y : Int)
    rw [List.append_assoc, List.length_append, htl, List.append_assoc] at h9
    rw [eM, ← hM1]
    exact h9
  have s2 : (M1.flatMap nmE).set j (.int .i64 i) = (midG l i j).flatMap nmE := by
    have h9 := nm_put ((ordG l i).take j) ((y : Int) :: ((ordG l i).drop (j + 1) ++ fromI l.length (i + 1))) (y : Int) (i : Int)
    rw [htl] at h9
    rw [eM2, ← hM1]
    exact h9
  have hfl2 : (M1.flatMap nmE).length = l.length := by rw [← s1, List.length_set, hfl]
  have hb2 : b < (H.set t (some ⟨(midG l i (j + 1)).flatMap nmE, true, e, 1⟩)).length := by simpa using hbl
  have cb2 : aCells (H.set t (some ⟨(midG l i (j + 1)).flatMap nmE, true, e, 1⟩)) ⟨b, 0, none⟩ 1 = some [.slice (some ⟨tv, 0, none⟩) l.length cv] := by
    rw [aCells_eq, Heap.get_set, if_neg (fun h => hbt h.symm), ← aCells_eq]; exact cb
  have hS2 : Sl tkE (H.set t (some ⟨(midG l i (j + 1)).flatMap nmE, true, e, 1⟩)) tv l := by
    obtain ⟨x, r, hx, ex⟩ := hS
    exact ⟨x, r, by rw [Heap.get_set, if_neg (fun h => hvt h.symm)]; exact hx, ex⟩
  have C := greedy1_A l cv i y hlt (by omega) (roH (H.set t (some ⟨(midG l i (j + 1)).flatMap nmE, true, e, 1⟩))) tv b hS2.ro (by rw [roH_length]; exact hb2) (by rw [aCells_roH]; exact cb2)
  obtain ⟨M, hM⟩ : ∃ M, midG l i (j + 1) = M := ⟨_, rfl⟩
  rw [hM] at hend hfl ca cbb s1 C ⊢
  have hj0 : j < l.length := by omega
  have hj1 : j + 1 < l.length := by omega
  simp -dsimp -implicitDefEqProofs (disch := omega) [go_sem, -List.getD_eq_getElem?_getD, ite_yes, ht, hbl]
  refine ADraw.quiet (by kernel_rfl) (by kernel_rfl) (by kernel_rfl) ?_
  simp -dsimp -implicitDefEqProofs (disch := omega) [go_sem, -List.getD_eq_getElem?_getD, ite_yes, ht, hbl, hj0, hj1, ca, cbb]
  refine ACallQ.of C rfl ?_
  by_cases hxy : mi l (y : Int) < mi l (i : Int)
  · rw [if_pos hxy] at hp
    rw [hp] at hpos
    have hc : cmpI (mi l (y : Int)) (mi l (i : Int)) = -1 := if_pos hxy
    rw [hc]
    simp -dsimp -implicitDefEqProofs (disch := omega) [go_sem, -List.getD_eq_getElem?_getD, ite_yes, ht, hbl]
    refine ADraw.any [] (by kernel_rfl) (SubH.nil) ?_
    refine AAny.takes (fuel := 6) (by kernel_rfl) (by kernel_rfl) [0, 1, 2, 3, 4, 5, 6, 7, 8, 10, 11, 12] (by kernel_rfl) (by kernel_rfl) ?_
    simp -dsimp -implicitDefEqProofs (disch := omega) [go_sem, -List.getD_eq_getElem?_getD, ite_yes, ht, hj0, hj1, ca, cbb, gs, hfl, hfl2, s1, s2, List.set_set]
    refine AAny.two 5 9 13 (by kernel_rfl) (by kernel_rfl) (by kernel_rfl) ?_ ?_
    · simp -dsimp -implicitDefEqProofs (disch := omega) [go_sem, -List.getD_eq_getElem?_getD, ite_yes, ht, hj0, hj1, ca, cbb, gs, hfl, hfl2, s1, s2, List.set_set]
      first | refine AAt.of (SubH.nil) ?_ | (refine ⟨?_, AAt.of (SubH.nil) ?_⟩; · omega)
      refine AAny.one 4 13 (by kernel_rfl) (by kernel_rfl) (by kernel_rfl) ?_
      simp -dsimp -implicitDefEqProofs (disch := omega) [go_sem, -List.getD_eq_getElem?_getD, ite_yes, ht, hj0, hj1, ca, cbb, gs, hfl, hfl2, s1, s2, List.set_set]
      first | refine AAt.of (SubH.nil) ?_ | (refine ⟨?_, AAt.of (SubH.nil) ?_⟩; · omega)
      refine AAny.takes (fuel := 3) (by kernel_rfl) (by kernel_rfl) [14] (by kernel_rfl) (by kernel_rfl) ?_
      simp -dsimp -implicitDefEqProofs (disch := omega) [go_sem, -List.getD_eq_getElem?_getD, ite_yes, ht, hj0, hj1, ca, cbb, gs, hfl, hfl2, s1, s2, List.set_set]
      refine AAny.one 2 15 (by kernel_rfl) (by kernel_rfl) (by kernel_rfl) ?_
      simp -dsimp -implicitDefEqProofs (disch := omega) [go_sem, -List.getD_eq_getElem?_getD, ite_yes, ht, hj0, hj1, ca, cbb, gs, hfl, hfl2, s1, s2, List.set_set]
      first | refine AAt.of (SubH.nil) ?_ | (refine ⟨?_, AAt.of (SubH.nil) ?_⟩; · omega)
      refine AAny.takes (fuel := 1) (by kernel_rfl) (by kernel_rfl) [16] (by kernel_rfl) (by kernel_rfl) ?_
      simp -dsimp -implicitDefEqProofs (disch := omega) [go_sem, -List.getD_eq_getElem?_getD, ite_yes, ht, hj0, hj1, ca, cbb, gs, hfl, hfl2, s1, s2, List.set_set]
      refine AAny.one 0 17 (by kernel_rfl) (by kernel_rfl) (by kernel_rfl) ?_
      simp -dsimp -implicitDefEqProofs (disch := omega) [go_sem, -List.getD_eq_getElem?_getD, ite_yes, ht, hj0, hj1, ca, cbb, gs, hfl, hfl2, s1, s2, List.set_set]
      first | refine AAt.of (SubH.nil) ?_ | (refine ⟨?_, AAt.of (SubH.nil) ?_⟩; · omega)
      refine AAny.done (by kernel_rfl) ?_
      simp -dsimp -implicitDefEqProofs (disch := omega) [go_sem, -List.getD_eq_getElem?_getD, ite_yes, ht, hj0, hj1, ca, cbb, gs, hfl, hfl2, s1, s2, List.set_set]
      exact LoopEnd.of j ⟨by omega, hpos⟩ (by omega) (weakS_set (b := ⟨(midG l i j).flatMap nmE, true, e, 1⟩) ht (nmE_flat _) rfl (by simp [s1, s2]) (by simp -dsimp -implicitDefEqProofs (disch := omega) [go_sem, -List.getD_eq_getElem?_getD, ite_yes, ht, hbl]))
    · simp -dsimp -implicitDefEqProofs (disch := omega) [go_sem, -List.getD_eq_getElem?_getD, ite_yes, ht, hj0, hj1, ca, cbb, gs, hfl, hfl2, s1, s2, List.set_set]
      first | refine AAt.of (SubH.nil) ?_ | (refine ⟨?_, AAt.of (SubH.nil) ?_⟩; · omega)
      refine AAny.one 4 9 (by kernel_rfl) (by kernel_rfl) (by kernel_rfl) ?_
      simp -dsimp -implicitDefEqProofs (disch := omega) [go_sem, -List.getD_eq_getElem?_getD, ite_yes, ht, hj0, hj1, ca, cbb, gs, hfl, hfl2, s1, s2, List.set_set]
      first | refine AAt.of (SubH.nil) ?_ | (refine ⟨?_, AAt.of (SubH.nil) ?_⟩; · omega)
      refine AAny.takes (fuel := 3) (by kernel_rfl) (by kernel_rfl) [14] (by kernel_rfl) (by kernel_rfl) ?_
      simp -dsimp -implicitDefEqProofs (disch := omega) [go_sem, -List.getD_eq_getElem?_getD, ite_yes, ht, hj0, hj1, ca, cbb, gs, hfl, hfl2, s1, s2, List.set_set]
      refine AAny.one 2 15 (by kernel_rfl) (by kernel_rfl) (by kernel_rfl) ?_
      simp -dsimp -implicitDefEqProofs (disch := omega) [go_sem, -List.getD_eq_getElem?_getD, ite_yes, ht, hj0, hj1, ca, cbb, gs, hfl, hfl2, s1, s2, List.set_set]
      first | refine AAt.of (SubH.nil) ?_ | (refine ⟨?_, AAt.of (SubH.nil) ?_⟩; · omega)
      refine AAny.takes (fuel := 1) (by kernel_rfl) (by kernel_rfl) [16] (by kernel_rfl) (by kernel_rfl) ?_
      simp -dsimp -implicitDefEqProofs (disch := omega) [go_sem, -List.getD_eq_getElem?_getD, ite_yes, ht, hj0, hj1, ca, cbb, gs, hfl, hfl2, s1, s2, List.set_set]
      refine AAny.one 0 17 (by kernel_rfl) (by kernel_rfl) (by kernel_rfl) ?_
      simp -dsimp -implicitDefEqProofs (disch := omega) [go_sem, -List.getD_eq_getElem?_getD, ite_yes, ht, hj0, hj1, ca, cbb, gs, hfl, hfl2, s1, s2, List.set_set]
      first | refine AAt.of (SubH.nil) ?_ | (refine ⟨?_, AAt.of (SubH.nil) ?_⟩; · omega)
      refine AAny.done (by kernel_rfl) ?_
      simp -dsimp -implicitDefEqProofs (disch := omega) [go_sem, -List.getD_eq_getElem?_getD, ite_yes, ht, hj0, hj1, ca, cbb, gs, hfl, hfl2, s1, s2, List.set_set]
      exact LoopEnd.of j ⟨by omega, hpos⟩ (by omega) (weakS_set (b := ⟨(midG l i j).flatMap nmE, true, e, 1⟩) ht (nmE_flat _) rfl (by simp [s1, s2]) (by simp -dsimp -implicitDefEqProofs (disch := omega) [go_sem, -List.getD_eq_getElem?_getD, ite_yes, ht, hbl]))
  · rw [if_neg hxy] at hp
    have hc : ¬ cmpI (mi l (y : Int)) (mi l (i : Int)) < 0 := by unfold cmpI; rw [if_neg hxy]; split <;> omega
    simp -dsimp -implicitDefEqProofs (disch := omega) [go_sem, -List.getD_eq_getElem?_getD, ite_yes, ht, hbl, hc]
    exact LoopEnd.of (i + 1) (by omega) (by omega) (weakS_set ht (nmE_flat _) rfl (hset M (hend hp)) (by simp -dsimp -implicitDefEqProofs (disch := omega) [go_sem, -List.getD_eq_getElem?_getD, ite_yes, ht, hbl]))
end Go.Proofs.Ythajahknincjjaa
