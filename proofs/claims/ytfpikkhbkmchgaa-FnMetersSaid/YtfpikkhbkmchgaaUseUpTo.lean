/- UseUpTo: both sides, and the law. -/
import Derived.Test.YtfpikkhbkmchgaaUseUpToLaw
namespace Go.Proofs.Ytfpikkhbkmchgaa
open Go.Am
set_option linter.unusedVariables false
set_option linter.unusedSimpArgs false
set_option maxRecDepth 100000
set_option maxHeartbeats 1000000

def useOk (l : List Rd) (day : Int) : Bool := good l && (decide (0 < l.length) && inB day (l.getD 0 (0, 0)).1 (l.getD (l.length - 1) (0, 0)).1)
theorem iUseUp_bad (l : List Rd) (day : Int) (hl : l.length ≤ 1048577) (hg : useOk l day = false) (c : Nat) (H : Heap) (t : Nat) (hS : Sl rdE H t l) :
    AFunC Try.prog 12 [.slice (some ⟨t, 0, none⟩) l.length c, .int .i64 day] H (.tuple #[.int .i64 0, .int .i64 0, .bool false]) H := by
  refine AFunC.of_body Try.func12 (by kernel_rfl) rfl (by kernel_rfl) (by simp [Try.ntmps12]) ?_
  have ht := hS.lt
  simp -dsimp -implicitDefEqProofs (disch := omega) [go_sem, -List.getD_eq_getElem?_getD, ite_yes]
  refine ADraw.quiet (by kernel_rfl) (by kernel_rfl) (by kernel_rfl) ?_
  simp -dsimp -implicitDefEqProofs (disch := omega) [go_sem, -List.getD_eq_getElem?_getD, ite_yes]
  refine ACallQ.of (iValidReadings_A l hl c _ t hS.ro) rfl ?_
  cases g1 : good l
  · simp -dsimp -implicitDefEqProofs (disch := omega) [go_sem, -List.getD_eq_getElem?_getD, ite_yes]
    exact fin_flat0 rfl rfl
  by_cases g2 : l.length = 0
  · have g2' : ((l.length : Nat) : Int) = 0 := by omega
    simp -dsimp -implicitDefEqProofs (disch := omega) [go_sem, -List.getD_eq_getElem?_getD, ite_yes, g2, g2']
    exact fin_flat0 rfl rfl
  · have g2' : ¬ ((l.length : Nat) : Int) = 0 := by omega
    have cl := hS.cell (s := 2) (fun _ => rfl) (0, 0) (l.length - 1) 0 (by omega) (by omega)
    have c0 := hS.cell (s := 2) (fun _ => rfl) (0, 0) 0 0 (by omega) (by omega)
    simp only [Nat.add_zero, Nat.zero_mul, rdE] at cl c0
    have g3 : inB day (l.getD 0 (0, 0)).1 (l.getD (l.length - 1) (0, 0)).1 = false := by
      simp only [useOk, g1, decide_eq_true (show 0 < l.length by omega), Bool.true_and] at hg
      exact hg
    simp -dsimp -implicitDefEqProofs (disch := omega) [go_sem, -List.getD_eq_getElem?_getD, ite_yes, g2, g2', cl, c0]
    refine ACallQ.of (inside_A _ _ _ _) rfl ?_
    simp -dsimp -implicitDefEqProofs (disch := omega) [go_sem, -List.getD_eq_getElem?_getD, ite_yes, g3]
    exact fin_flat0 rfl rfl
theorem iUseUp_good (l : List Rd) (D j : Nat) (hl : l.length ≤ 1048577) (hg : useOk l D = true) (hj : DayAt l D j) (c : Nat) (H : Heap) (t : Nat) (hS : Sl rdE H t l) :
    AFunC Try.prog 12 [.slice (some ⟨t, 0, none⟩) l.length c, .int .i64 D] H (.tuple #[.int .i64 ((resN l D j).1 : Nat), .int .i64 ((resN l D j).2 : Nat), .bool true]) H := by
  refine AFunC.of_body Try.func12 (by kernel_rfl) rfl (by kernel_rfl) (by simp [Try.ntmps12]) ?_
  have ht := hS.lt
  simp only [useOk, Bool.and_eq_true, decide_eq_true_eq] at hg
  obtain ⟨g1, g2, g3⟩ := hg
  have h12 := (good_at g1).1
  have g2' : ¬ ((l.length : Nat) : Int) = 0 := by omega
  have g2'' : ¬ l.length = 0 := by omega
  have cl := hS.cell (s := 2) (fun _ => rfl) (0, 0) (l.length - 1) 0 (by omega) (by omega)
  have c0 := hS.cell (s := 2) (fun _ => rfl) (0, 0) 0 0 (by omega) (by omega)
  have cd : ∀ k, k < l.length → aCells H ⟨t, k * 2, none⟩ 1 = some [.int .i64 (dayN l k : Int)] := fun k hk => by
    have := hS.cell (s := 2) (fun _ => rfl) (0, 0) k 0 hk (by omega)
    rw [← dayN_eq g1 hk]
    exact this
  simp only [Nat.add_zero, Nat.zero_mul, rdE] at cl c0
  have g3' := g3
  simp only [inB, Bool.and_eq_true, decide_eq_true_eq] at g3'
  rw [dayN_eq g1 (show l.length - 1 < l.length by omega)] at g3'
  have hD : D ≤ dayN l (l.length - 1) := by omega
  have ul : (uses l).length = l.length - 1 := by unfold uses; exact usesTo_length
  have ufl : ((uses l).flatMap nmE).length = l.length - 1 := by rw [nmE_length, ul]; omega
  have uc : ∀ k, k + 1 < l.length → List.take 1 (List.drop k ((uses l).flatMap nmE)) = [.int .i64 (useN l k : Nat)] := fun k hk => by
    have := flatMap_cells nmE 1 (fun _ => rfl) 0 (uses l) k (by omega)
    rw [Nat.mul_one] at this
    rw [this, ← useN_eq]
    simp [nmE, uses, usesTo, List.getD, show k < l.length - 1 by omega]
  simp -dsimp -implicitDefEqProofs (disch := omega) [go_sem, -List.getD_eq_getElem?_getD, ite_yes]
  refine ADraw.quiet (by kernel_rfl) (by kernel_rfl) (by kernel_rfl) ?_
  simp -dsimp -implicitDefEqProofs (disch := omega) [go_sem, -List.getD_eq_getElem?_getD, ite_yes]
  refine ACallQ.of (iValidReadings_A l hl c _ t hS.ro) rfl ?_
  simp -dsimp -implicitDefEqProofs (disch := omega) [go_sem, -List.getD_eq_getElem?_getD, ite_yes, g1, g2', g2'', cl, c0]
  refine ACallQ.of (inside_A _ _ _ _) rfl ?_
  simp -dsimp -implicitDefEqProofs (disch := omega) [go_sem, -List.getD_eq_getElem?_getD, ite_yes, g3]
  refine ACall.of (usesOf_A l g1 c _ t hS.app) ?_
  simp -dsimp -implicitDefEqProofs (disch := omega) [go_sem, -List.getD_eq_getElem?_getD, ite_yes, ht]
  refine ALoop.intro (ι := Nat) (fun k => k ≤ l.length - 1) (fun k => [(0, .slice (some ⟨t, 0, none⟩) l.length c), (1, .int .i64 D), (7, .pointer (some ⟨H.length, 0, none⟩)), (38, .slice (some ⟨H.length + 1, 0, none⟩) (uses l).length (uses l).length), (39, .int .i64 ((l.length - 1 : Nat) : Int)), (40, .int .i64 k)])
    (fun k => H ++ [some ⟨[.int .i64 ((partN l D j k).1 : Nat), .int .i64 ((partN l D j k).2 : Nat)], true, 51, 1⟩, some ⟨(uses l).flatMap nmE, true, 3, 1⟩]) (fun k => l.length - 1 - k) 0 (by omega) ?_ ?_
  · refine weakS_mk [some 0, some 1] rfl ?_ (by simp -dsimp -implicitDefEqProofs (disch := omega) [go_sem, -List.getD_eq_getElem?_getD, ite_yes, ht, ul])
    simp -dsimp -implicitDefEqProofs (disch := omega) [go_sem, -List.getD_eq_getElem?_getD, ite_yes]
    exact ⟨.inl ⟨by simp [partN, sumN], by simp [flat]⟩, .inl ⟨rfl, nmE_flat _⟩⟩
  · intro k hk
    by_cases hlt : k < l.length - 1
    · have hk1 : k + 1 < l.length := by omega
      have d1 := dayN_lt g1 hk1
      have d2 := dayN_le g1 hk1
      have d3 := useN_le l k
      obtain ⟨p1, p2, p3⟩ := partN_le g1 hj hD (k := k) (by omega)
      have e4 := partN_next g1 hj hk1
      have e3 : (dayN l (k + 1) : Int) - (dayN l k : Int) = ((dayN l (k + 1) - dayN l k : Nat) : Int) := by omega
      have e0 : (if dayN l (k + 1) < D then ((dayN l (k + 1) : Nat) : Int) else (D : Int)) = ((min D (dayN l (k + 1)) : Nat) : Int) := by split <;> omega
      have hmm : min D (dayN l (k + 1)) - dayN l k ≤ 3650 := by omega
      generalize min D (dayN l (k + 1)) = mm at e4 e0 hmm
      have e1 : (if (mm : Int) - (dayN l k : Int) < 0 then 0 else (mm : Int) - (dayN l k : Int)) = ((mm - dayN l k : Nat) : Int) := by split <;> omega
      have e2 : (useN l k : Int) * ((mm - dayN l k : Nat) : Int) = ((useN l k * (mm - dayN l k) : Nat) : Int) := (Int.natCast_mul _ _).symm
      have m1 := Nat.mul_le_mul d3 hmm
      have r1 := redN_le (useN l k * (mm - dayN l k)) (dayN l (k + 1) - dayN l k)
      have r2 := redN_pos (a := useN l k * (mm - dayN l k)) (b := dayN l (k + 1) - dayN l k) (by omega)
      have cd0 := cd k (by omega)
      have cd1 := cd (k + 1) (by omega)
      simp -dsimp -implicitDefEqProofs (disch := omega) [go_sem, -List.getD_eq_getElem?_getD, ite_yes, hlt, ul, ufl, uc, hk1, ht]
      refine ADraw.quiet (by kernel_rfl) (by kernel_rfl) (by kernel_rfl) ?_
      simp -dsimp -implicitDefEqProofs (disch := omega) [go_sem, -List.getD_eq_getElem?_getD, ite_yes, ht, cd0, cd1, hk1]
      refine ADraw.any H (by kernel_rfl) (by first | exact SubH.refl | exact SubH.app | exact SubH.both (by simp [subL])) ?_
      refine AAny.takes (fuel := 4) (by kernel_rfl) (by kernel_rfl) [1, 2, 3, 4, 5, 6, 7, 8, 9, 10, 11] (by kernel_rfl) (by kernel_rfl) ?_
      simp -dsimp -implicitDefEqProofs (disch := omega) [go_sem, -List.getD_eq_getElem?_getD, ite_yes, ht, e0, e1, e2, e3, -Int.natCast_ediv, -Int.natCast_mul, -Int.natCast_add, -Int.natCast_emod]
      refine AAny.two 3 0 12 (by kernel_rfl) (by kernel_rfl) (by kernel_rfl) ?_ ?_
      · simp -dsimp -implicitDefEqProofs (disch := omega) [go_sem, -List.getD_eq_getElem?_getD, ite_yes, ht, e0, e1, e2, e3, -Int.natCast_ediv, -Int.natCast_mul, -Int.natCast_add, -Int.natCast_emod]
        first | refine AAt.of (by first | exact SubH.refl | exact SubH.app | exact SubH.both (by simp [subL])) ?_ | (refine ⟨?_, AAt.of (by first | exact SubH.refl | exact SubH.app | exact SubH.both (by simp [subL])) ?_⟩; · omega)
        refine AAny.one 2 12 (by kernel_rfl) (by kernel_rfl) (by kernel_rfl) ?_
        simp -dsimp -implicitDefEqProofs (disch := omega) [go_sem, -List.getD_eq_getElem?_getD, ite_yes, ht, e0, e1, e2, e3, -Int.natCast_ediv, -Int.natCast_mul, -Int.natCast_add, -Int.natCast_emod]
        refine ACall.of (asPart_A (useN l k * (mm - dayN l k)) (dayN l (k + 1) - dayN l k) (by omega) (by omega) (by omega) _) ?_
        simp -dsimp -implicitDefEqProofs (disch := omega) [go_sem, -List.getD_eq_getElem?_getD, ite_yes, ht, e0, e1, e2, e3, -Int.natCast_ediv, -Int.natCast_mul, -Int.natCast_add, -Int.natCast_emod]
        first | refine AAt.of (by first | exact SubH.refl | exact SubH.app | exact SubH.both (by simp [subL])) ?_ | (refine ⟨?_, AAt.of (by first | exact SubH.refl | exact SubH.app | exact SubH.both (by simp [subL])) ?_⟩; · omega)
        refine AAny.one 1 13 (by kernel_rfl) (by kernel_rfl) (by kernel_rfl) ?_
        simp -dsimp -implicitDefEqProofs (disch := omega) [go_sem, -List.getD_eq_getElem?_getD, ite_yes, ht, e0, e1, e2, e3, -Int.natCast_ediv, -Int.natCast_mul, -Int.natCast_add, -Int.natCast_emod]
        refine ACall.of (plus_A (partN l D j k).1 (partN l D j k).2 (redN (useN l k * (mm - dayN l k)) (dayN l (k + 1) - dayN l k)).1 (redN (useN l k * (mm - dayN l k)) (dayN l (k + 1) - dayN l k)).2 (by omega) (by omega) (by omega) (by omega) p2 r2 _) ?_
        simp -dsimp -implicitDefEqProofs (disch := omega) [go_sem, -List.getD_eq_getElem?_getD, ite_yes, ht, e0, e1, e2, e3, -Int.natCast_ediv, -Int.natCast_mul, -Int.natCast_add, -Int.natCast_emod]
        first | refine AAt.of (by first | exact SubH.refl | exact SubH.app | exact SubH.both (by simp [subL])) ?_ | (refine ⟨?_, AAt.of (by first | exact SubH.refl | exact SubH.app | exact SubH.both (by simp [subL])) ?_⟩; · omega)
        refine AAny.one 0 14 (by kernel_rfl) (by kernel_rfl) (by kernel_rfl) ?_
        simp -dsimp -implicitDefEqProofs (disch := omega) [go_sem, -List.getD_eq_getElem?_getD, ite_yes, ht, e0, e1, e2, e3, -Int.natCast_ediv, -Int.natCast_mul, -Int.natCast_add, -Int.natCast_emod]
        first | refine AAt.of (by first | exact SubH.refl | exact SubH.app | exact SubH.both (by simp [subL])) ?_ | (refine ⟨?_, AAt.of (by first | exact SubH.refl | exact SubH.app | exact SubH.both (by simp [subL])) ?_⟩; · omega)
        refine AAny.done (by kernel_rfl) ?_
        simp -dsimp -implicitDefEqProofs (disch := omega) [go_sem, -List.getD_eq_getElem?_getD, ite_yes, ht, e0, e1, e2, e3, -Int.natCast_ediv, -Int.natCast_mul, -Int.natCast_add, -Int.natCast_emod]
        refine LoopEnd.of (k + 1) (by omega) (by omega) (weakS_mk [some 0, some 1] rfl ?_ (by simp -dsimp -implicitDefEqProofs (disch := omega) [go_sem, -List.getD_eq_getElem?_getD, ite_yes, ht, ul]))
        simp -dsimp -implicitDefEqProofs (disch := omega) [go_sem, -List.getD_eq_getElem?_getD, ite_yes, -Int.natCast_ediv, -Int.natCast_mul, -Int.natCast_add, -Int.natCast_emod]
        exact ⟨.inl ⟨by rw [e4]; rfl, by simp [flat]⟩, .inl ⟨rfl, nmE_flat _⟩⟩
      · simp -dsimp -implicitDefEqProofs (disch := omega) [go_sem, -List.getD_eq_getElem?_getD, ite_yes, ht, e0, e1, e2, e3, -Int.natCast_ediv, -Int.natCast_mul, -Int.natCast_add, -Int.natCast_emod]
        refine ACall.of (asPart_A (useN l k * (mm - dayN l k)) (dayN l (k + 1) - dayN l k) (by omega) (by omega) (by omega) _) ?_
        simp -dsimp -implicitDefEqProofs (disch := omega) [go_sem, -List.getD_eq_getElem?_getD, ite_yes, ht, e0, e1, e2, e3, -Int.natCast_ediv, -Int.natCast_mul, -Int.natCast_add, -Int.natCast_emod]
        first | refine AAt.of (by first | exact SubH.refl | exact SubH.app | exact SubH.both (by simp [subL])) ?_ | (refine ⟨?_, AAt.of (by first | exact SubH.refl | exact SubH.app | exact SubH.both (by simp [subL])) ?_⟩; · omega)
        refine AAny.one 2 0 (by kernel_rfl) (by kernel_rfl) (by kernel_rfl) ?_
        simp -dsimp -implicitDefEqProofs (disch := omega) [go_sem, -List.getD_eq_getElem?_getD, ite_yes, ht, e0, e1, e2, e3, -Int.natCast_ediv, -Int.natCast_mul, -Int.natCast_add, -Int.natCast_emod]
        first | refine AAt.of (by first | exact SubH.refl | exact SubH.app | exact SubH.both (by simp [subL])) ?_ | (refine ⟨?_, AAt.of (by first | exact SubH.refl | exact SubH.app | exact SubH.both (by simp [subL])) ?_⟩; · omega)
        refine AAny.one 1 13 (by kernel_rfl) (by kernel_rfl) (by kernel_rfl) ?_
        simp -dsimp -implicitDefEqProofs (disch := omega) [go_sem, -List.getD_eq_getElem?_getD, ite_yes, ht, e0, e1, e2, e3, -Int.natCast_ediv, -Int.natCast_mul, -Int.natCast_add, -Int.natCast_emod]
        refine ACall.of (plus_A (partN l D j k).1 (partN l D j k).2 (redN (useN l k * (mm - dayN l k)) (dayN l (k + 1) - dayN l k)).1 (redN (useN l k * (mm - dayN l k)) (dayN l (k + 1) - dayN l k)).2 (by omega) (by omega) (by omega) (by omega) p2 r2 _) ?_
        simp -dsimp -implicitDefEqProofs (disch := omega) [go_sem, -List.getD_eq_getElem?_getD, ite_yes, ht, e0, e1, e2, e3, -Int.natCast_ediv, -Int.natCast_mul, -Int.natCast_add, -Int.natCast_emod]
        first | refine AAt.of (by first | exact SubH.refl | exact SubH.app | exact SubH.both (by simp [subL])) ?_ | (refine ⟨?_, AAt.of (by first | exact SubH.refl | exact SubH.app | exact SubH.both (by simp [subL])) ?_⟩; · omega)
        refine AAny.one 0 14 (by kernel_rfl) (by kernel_rfl) (by kernel_rfl) ?_
        simp -dsimp -implicitDefEqProofs (disch := omega) [go_sem, -List.getD_eq_getElem?_getD, ite_yes, ht, e0, e1, e2, e3, -Int.natCast_ediv, -Int.natCast_mul, -Int.natCast_add, -Int.natCast_emod]
        first | refine AAt.of (by first | exact SubH.refl | exact SubH.app | exact SubH.both (by simp [subL])) ?_ | (refine ⟨?_, AAt.of (by first | exact SubH.refl | exact SubH.app | exact SubH.both (by simp [subL])) ?_⟩; · omega)
        refine AAny.done (by kernel_rfl) ?_
        simp -dsimp -implicitDefEqProofs (disch := omega) [go_sem, -List.getD_eq_getElem?_getD, ite_yes, ht, e0, e1, e2, e3, -Int.natCast_ediv, -Int.natCast_mul, -Int.natCast_add, -Int.natCast_emod]
        refine LoopEnd.of (k + 1) (by omega) (by omega) (weakS_mk [some 0, some 1] rfl ?_ (by simp -dsimp -implicitDefEqProofs (disch := omega) [go_sem, -List.getD_eq_getElem?_getD, ite_yes, ht, ul]))
        simp -dsimp -implicitDefEqProofs (disch := omega) [go_sem, -List.getD_eq_getElem?_getD, ite_yes, -Int.natCast_ediv, -Int.natCast_mul, -Int.natCast_add, -Int.natCast_emod]
        exact ⟨.inl ⟨by rw [e4]; rfl, by simp [flat]⟩, .inl ⟨rfl, nmE_flat _⟩⟩
    · have : k = l.length - 1 := by omega
      subst this
      have e4 := partN_end g1 hj hD
      simp -dsimp -implicitDefEqProofs (disch := omega) [go_sem, -List.getD_eq_getElem?_getD, ite_yes]
      refine ADraw.quiet (by kernel_rfl) (by kernel_rfl) (by kernel_rfl) ?_
      simp -dsimp -implicitDefEqProofs (disch := omega) [go_sem, -List.getD_eq_getElem?_getD, ite_yes]
      exact fin_flat rfl (by rw [e4])
theorem sUseUp_bad (l : List Rd) (day : Int) (hl : l.length ≤ 1048577) (hg : useOk l day = false) (c : Nat) (H : Heap) (t : Nat) (hS : Sl rdE H t l) :
    AFunC Try.prog 19 [.slice (some ⟨t, 0, none⟩) l.length c, .int .i64 day] H (.tuple #[.int .i64 0, .int .i64 0, .bool false]) H := by
  refine AFunC.of_body Try.func19 (by kernel_rfl) rfl (by kernel_rfl) (by simp [Try.ntmps19]) ?_
  have ht := hS.lt
  simp -dsimp -implicitDefEqProofs (disch := omega) [go_sem, -List.getD_eq_getElem?_getD, ite_yes]
  refine ADraw.quiet (by kernel_rfl) (by kernel_rfl) (by kernel_rfl) ?_
  simp -dsimp -implicitDefEqProofs (disch := omega) [go_sem, -List.getD_eq_getElem?_getD, ite_yes]
  refine ACallQ.of (l19Good_A l hl c _ t hS.ro) rfl ?_
  cases g1 : good l
  · simp -dsimp -implicitDefEqProofs (disch := omega) [go_sem, -List.getD_eq_getElem?_getD, ite_yes]
    exact fin_flat0 rfl rfl
  by_cases g2 : l.length = 0
  · have g2' : ((l.length : Nat) : Int) = 0 := by omega
    simp -dsimp -implicitDefEqProofs (disch := omega) [go_sem, -List.getD_eq_getElem?_getD, ite_yes, g2, g2']
    exact fin_flat0 rfl rfl
  · have g2' : ¬ ((l.length : Nat) : Int) = 0 := by omega
    have cl := hS.cell (s := 2) (fun _ => rfl) (0, 0) (l.length - 1) 0 (by omega) (by omega)
    have c0 := hS.cell (s := 2) (fun _ => rfl) (0, 0) 0 0 (by omega) (by omega)
    simp only [Nat.add_zero, Nat.zero_mul, rdE] at cl c0
    have g3 : inB day (l.getD 0 (0, 0)).1 (l.getD (l.length - 1) (0, 0)).1 = false := by
      simp only [useOk, g1, decide_eq_true (show 0 < l.length by omega), Bool.true_and] at hg
      exact hg
    simp -dsimp -implicitDefEqProofs (disch := omega) [go_sem, -List.getD_eq_getElem?_getD, ite_yes, g2, g2', cl, c0]
    refine ACallQ.of (l1In_A _ _ _ _) rfl ?_
    simp -dsimp -implicitDefEqProofs (disch := omega) [go_sem, -List.getD_eq_getElem?_getD, ite_yes, g3]
    exact fin_flat0 rfl rfl
theorem sUseUp_good (l : List Rd) (D j : Nat) (hl : l.length ≤ 1048577) (hg : useOk l D = true) (hj : DayAt l D j) (c : Nat) (H : Heap) (t : Nat) (hS : Sl rdE H t l) (hz : blkSz H t = some 2) :
    AFunC Try.prog 19 [.slice (some ⟨t, 0, none⟩) l.length c, .int .i64 D] H (.tuple #[.int .i64 ((resN l D j).1 : Nat), .int .i64 ((resN l D j).2 : Nat), .bool true]) H := by
  refine AFunC.of_body Try.func19 (by kernel_rfl) rfl (by kernel_rfl) (by simp [Try.ntmps19]) ?_
  have ht := hS.lt
  simp only [useOk, Bool.and_eq_true, decide_eq_true_eq] at hg
  obtain ⟨g1, g2, g3⟩ := hg
  have h12 := (good_at g1).1
  have g2' : ¬ ((l.length : Nat) : Int) = 0 := by omega
  have g2'' : ¬ l.length = 0 := by omega
  have cl := hS.cell (s := 2) (fun _ => rfl) (0, 0) (l.length - 1) 0 (by omega) (by omega)
  have c0 := hS.cell (s := 2) (fun _ => rfl) (0, 0) 0 0 (by omega) (by omega)
  have cs := fun k hk => hS.cells (s := 2) (fun _ => rfl) (0, 0) k hk
  have cd : ∀ k, k < l.length → aCells H ⟨t, k * 2, none⟩ 1 = some [.int .i64 (dayN l k : Int)] := fun k hk => by
    have := hS.cell (s := 2) (fun _ => rfl) (0, 0) k 0 hk (by omega)
    rw [← dayN_eq g1 hk]
    exact this
  simp only [Nat.add_zero, Nat.zero_mul, rdE] at cl c0 cs
  have g3' := g3
  simp only [inB, Bool.and_eq_true, decide_eq_true_eq] at g3'
  rw [dayN_eq g1 (show l.length - 1 < l.length by omega), dayN_eq g1 (show 0 < l.length by omega)] at g3'
  have hD : D ≤ dayN l (l.length - 1) := by omega
  simp -dsimp -implicitDefEqProofs (disch := omega) [go_sem, -List.getD_eq_getElem?_getD, ite_yes]
  refine ADraw.quiet (by kernel_rfl) (by kernel_rfl) (by kernel_rfl) ?_
  simp -dsimp -implicitDefEqProofs (disch := omega) [go_sem, -List.getD_eq_getElem?_getD, ite_yes]
  refine ACallQ.of (l19Good_A l hl c _ t hS.ro) rfl ?_
  simp -dsimp -implicitDefEqProofs (disch := omega) [go_sem, -List.getD_eq_getElem?_getD, ite_yes, g1, g2', g2'', cl, c0]
  refine ACallQ.of (l1In_A _ _ _ _) rfl ?_
  simp -dsimp -implicitDefEqProofs (disch := omega) [go_sem, -List.getD_eq_getElem?_getD, ite_yes, g3]
  refine ALoop.intro (ι := Nat) (fun i => i < l.length ∧ dayN l i ≤ D) (fun i => [(0, .slice (some ⟨t, 0, none⟩) l.length c), (1, .int .i64 D), (7, .int .i64 l.length), (8, .int .i64 i)]) (fun _ => H) (fun i => l.length - i) 0 ⟨by omega, by omega⟩ ?_ ?_
  · exact weakS_same (by simp -dsimp -implicitDefEqProofs (disch := omega) [go_sem, -List.getD_eq_getElem?_getD, ite_yes, ht])
  · rintro i ⟨hi, hd⟩
    by_cases h1 : i + 1 < l.length
    · have cd1 := cd (i + 1) h1
      have h1' : (i : Int) + 1 < (l.length : Int) := by omega
      by_cases h2 : dayN l (i + 1) ≤ D
      · have h2' : ((dayN l (i + 1) : Nat) : Int) ≤ (D : Int) := by omega
        simp -dsimp -implicitDefEqProofs (disch := omega) [go_sem, -List.getD_eq_getElem?_getD, ite_yes, h1, h1', cd1, h2, h2']
        exact LoopEnd.of (i + 1) ⟨h1, h2⟩ (by omega) (weakS_same (by simp -dsimp -implicitDefEqProofs (disch := omega) [go_sem, -List.getD_eq_getElem?_getD, ite_yes, ht]))
      · have h2' : ¬ ((dayN l (i + 1) : Nat) : Int) ≤ (D : Int) := by omega
        have hi2 : DayAt l D i := ⟨hi, hd, fun _ => by omega⟩
        obtain rfl := DayAt.uniq g1 hj hi2
        simp -dsimp -implicitDefEqProofs (disch := omega) [go_sem, -List.getD_eq_getElem?_getD, ite_yes, h1, h1', cd1, h2, h2', hz]
        refine ACall.of (l19Total_A l (j + 1) (by omega) g1 _ _ t hS) ?_
        rw [sumN_eq]
        have cd0 := cd j hi
        by_cases h3 : dayN l j = D
        · have h3' : ((dayN l j : Nat) : Int) = (D : Int) := by omega
          simp -dsimp -implicitDefEqProofs (disch := omega) [go_sem, -List.getD_eq_getElem?_getD, ite_yes, cd0, h3, h3']
          exact fin_flat0 rfl (by simp [resN, h3])
        · have h3' : ¬ ((dayN l j : Nat) : Int) = (D : Int) := by omega
          have d1 := dayN_lt g1 h1
          have d2 := dayN_le g1 h1
          have d3 := useN_le l j
          have d4 := sumN_le l j
          have e3 : (dayN l (j + 1) : Int) - (dayN l j : Int) = ((dayN l (j + 1) - dayN l j : Nat) : Int) := by omega
          have e5 : (D : Int) - (dayN l j : Int) = ((D - dayN l j : Nat) : Int) := by omega
          have m1 := Nat.mul_le_mul (show sumN l j ≤ 1199988 by omega) (show dayN l (j + 1) - dayN l j ≤ 3650 by omega)
          have m2 := Nat.mul_le_mul d3 (show D - dayN l j ≤ 3650 by omega)
          have e6 : (sumN l j : Int) * ((dayN l (j + 1) - dayN l j : Nat) : Int) = ((sumN l j * (dayN l (j + 1) - dayN l j) : Nat) : Int) := (Int.natCast_mul _ _).symm
          have e7 : (useN l j : Int) * ((D - dayN l j : Nat) : Int) = ((useN l j * (D - dayN l j) : Nat) : Int) := (Int.natCast_mul _ _).symm
          have e8 : ((sumN l j * (dayN l (j + 1) - dayN l j) : Nat) : Int) + ((useN l j * (D - dayN l j) : Nat) : Int) = ((sumN l j * (dayN l (j + 1) - dayN l j) + useN l j * (D - dayN l j) : Nat) : Int) := (Int.natCast_add _ _).symm
          generalize hnn : sumN l j * (dayN l (j + 1) - dayN l j) + useN l j * (D - dayN l j) = nn at e8
          have a1 := (good_at g1).2 j hi
          have a2 := (good_at g1).2 (j + 1) h1
          have c1 := cs j hi
          have c2 := cs (j + 1) h1
          simp -dsimp -implicitDefEqProofs (disch := omega) [go_sem, -List.getD_eq_getElem?_getD, ite_yes, cd0, h3, h3']
          refine ADraw.quiet (by kernel_rfl) (by kernel_rfl) (by kernel_rfl) ?_
          simp -dsimp -implicitDefEqProofs (disch := omega) [go_sem, -List.getD_eq_getElem?_getD, ite_yes, cd0, cd1, h1, e3, -Int.natCast_ediv, -Int.natCast_mul, -Int.natCast_add, -Int.natCast_emod]
          refine ADraw.quiet (by kernel_rfl) (by kernel_rfl) (by kernel_rfl) ?_
          simp -dsimp -implicitDefEqProofs (disch := omega) [go_sem, -List.getD_eq_getElem?_getD, ite_yes, cd0, h1, c1, c2, e6, -Int.natCast_ediv, -Int.natCast_mul, -Int.natCast_add, -Int.natCast_emod]
          refine ACallQ.of (l19Use_A (l.getD j (0, 0)) (l.getD (j + 1) (0, 0)) (by omega) (by omega) _) rfl ?_
          rw [useN_eq]
          simp -dsimp -implicitDefEqProofs (disch := omega) [go_sem, -List.getD_eq_getElem?_getD, ite_yes, cd0, e5, e7, e8, -Int.natCast_ediv, -Int.natCast_mul, -Int.natCast_add, -Int.natCast_emod]
          refine ACallQ.of (l3Reduce_A _ _ (by omega) (by omega) (by omega) _) rfl ?_
          simp -dsimp -implicitDefEqProofs (disch := omega) [go_sem, -List.getD_eq_getElem?_getD, ite_yes, -Int.natCast_ediv, -Int.natCast_mul, -Int.natCast_add, -Int.natCast_emod]
          exact fin_flat0 rfl (by unfold resN; rw [if_neg h3, hnn]; rfl)
    · have hi2 : DayAt l D i := ⟨hi, hd, fun h => absurd h h1⟩
      have h1' : ¬ (i : Int) + 1 < (l.length : Int) := by omega
      obtain rfl := DayAt.uniq g1 hj hi2
      simp -dsimp -implicitDefEqProofs (disch := omega) [go_sem, -List.getD_eq_getElem?_getD, ite_yes, h1, h1', hz]
      refine ACall.of (l19Total_A l (j + 1) (by omega) g1 _ _ t hS) ?_
      rw [sumN_eq]
      have cd0 := cd j hi
      have hjl : j = l.length - 1 := by omega
      have h3 : dayN l j = D := by rw [← hjl] at hD; omega
      have h3' : ((dayN l j : Nat) : Int) = (D : Int) := by omega
      simp -dsimp -implicitDefEqProofs (disch := omega) [go_sem, -List.getD_eq_getElem?_getD, ite_yes, cd0, h3, h3']
      exact fin_flat0 rfl (by simp [resN, h3])
theorem useOk_at {l : List Rd} {day : Int} (h : useOk l day = true) : ∃ (D j : Nat), day = (D : Int) ∧ DayAt l D j := by
  have h' := h
  simp only [useOk, inB, Bool.and_eq_true, decide_eq_true_eq] at h'
  obtain ⟨g1, g2, g3, g4⟩ := h'
  have e := dayN_eq g1 g2
  obtain ⟨D, rfl⟩ : ∃ D : Nat, day = (D : Int) := ⟨day.toNat, by omega⟩
  obtain ⟨j, hj⟩ := DayAt.next (l := l) (D := D) l.length 0 (by omega) g2 (by omega)
  exact ⟨D, j, rfl, hj⟩
end Go.Proofs.Ytfpikkhbkmchgaa
