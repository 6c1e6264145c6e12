/- NextCount: both sides, and the law. -/
import Derived.Test.YtfpikkhbkmchgaaUses
namespace Go.Proofs.Ytfpikkhbkmchgaa
open Go.Am
set_option linter.unusedVariables false
set_option linter.unusedSimpArgs false
set_option maxRecDepth 100000
set_option maxHeartbeats 1000000

theorem good_mono {l : List Rd} (h : good l = true) : ∀ (d i : Nat), i + d + 1 < l.length → (l.getD i (0, 0)).1 < (l.getD (i + d + 1) (0, 0)).1
  | 0, i, hi => by
    have := ((good_at h).2 (i + 1) (by omega)).2.2.2.2 (by omega)
    rwa [Nat.add_sub_cancel] at this
  | d + 1, i, hi => by
    have ih := good_mono h d i (by omega)
    have := ((good_at h).2 (i + d + 1 + 1) (by omega)).2.2.2.2 (by omega)
    rw [Nat.add_sub_cancel] at this
    rw [show i + (d + 1) + 1 = i + d + 1 + 1 by omega]
    omega
theorem mul_bound {a b A B : Int} (h1 : 0 ≤ a) (h2 : a ≤ A) (h3 : 0 ≤ b) (h4 : b ≤ B) : 0 ≤ a * b ∧ a * b ≤ A * B :=
  ⟨Int.mul_nonneg h1 h3, Int.le_trans (Int.mul_le_mul_of_nonneg_right h2 h3) (Int.mul_le_mul_of_nonneg_left h4 (by omega))⟩
theorem tot_bound {l : List Rd} (h : good l = true) : 0 ≤ (uses l).sum ∧ (uses l).sum ≤ 1199988 := by
  have h12 := (good_at h).1
  have := sumTo_bound (uses_bound (l := l) (k := l.length)) (l.length - 1) (by rw [usesTo_length]; omega)
  unfold sumTo at this
  rw [List.take_of_length_le (by rw [usesTo_length]; omega)] at this
  unfold uses
  omega
def lastOf (l : List Rd) : Rd := l.getD (l.length - 1) (0, 0)
def nextOk (l : List Rd) (day : Int) : Bool := good l && decide (2 ≤ l.length) && inB day 0 3650 && decide ((lastOf l).1 ≤ day)
def moreN (l : List Rd) (day : Int) : Int := (2 * (uses l).sum * (day - (lastOf l).1) + ((lastOf l).1 - (l.getD 0 (0, 0)).1)) / (2 * ((lastOf l).1 - (l.getD 0 (0, 0)).1))
def nextN (l : List Rd) (day : Int) : Int := ((lastOf l).2 + moreN l day) % 100000
structure NextAt (l : List Rd) (day : Int) : Prop where
  f_len : 2 ≤ l.length ∧ l.length ≤ 12
  f_good : good l = true
  f_day : 0 ≤ day ∧ day ≤ 3650 ∧ (lastOf l).1 ≤ day
  f_last : 0 ≤ (lastOf l).1 ∧ (lastOf l).1 ≤ 3650 ∧ 0 ≤ (lastOf l).2 ∧ (lastOf l).2 ≤ 99999
  f_first : 0 ≤ (l.getD 0 (0, 0)).1 ∧ (l.getD 0 (0, 0)).1 < (lastOf l).1
  f_prod : 0 ≤ 2 * (uses l).sum * (day - (lastOf l).1) ∧ 2 * (uses l).sum * (day - (lastOf l).1) ≤ 2399976 * 3650
  f_more : 0 ≤ moreN l day ∧ moreN l day ≤ 2399976 * 3650 + 3650
theorem NextAt.of {l : List Rd} {day : Int} (h : nextOk l day = true) : NextAt l day := by
  simp only [nextOk, inB, Bool.and_eq_true, decide_eq_true_eq] at h
  obtain ⟨⟨⟨g1, g2⟩, g3, g4⟩, g5⟩ := h
  have ha := good_at g1
  have hl := ha.2 (l.length - 1) (by omega)
  have h0 := ha.2 0 (by omega)
  have hm := good_mono g1 (l.length - 2) 0 (by omega)
  rw [show 0 + (l.length - 2) + 1 = l.length - 1 by omega] at hm
  have tb := tot_bound g1
  have pr := mul_bound (a := 2 * (uses l).sum) (b := day - (lastOf l).1) (A := 2399976) (B := 3650) (by omega) (by omega) (by unfold lastOf at *; omega) (by unfold lastOf at *; omega)
  have q0 : 0 ≤ 2 * (uses l).sum * (day - (lastOf l).1) + ((lastOf l).1 - (l.getD 0 (0, 0)).1) := by unfold lastOf at *; omega
  refine ⟨⟨g2, ha.1⟩, g1, ⟨g3, g4, g5⟩, by unfold lastOf; omega, by unfold lastOf; omega, pr, Int.ediv_nonneg q0 (by unfold lastOf; omega), ?_⟩
  have := Int.ediv_le_self (2 * ((lastOf l).1 - (l.getD 0 (0, 0)).1)) q0
  unfold moreN
  unfold lastOf at *
  omega
theorem iNext_bad (l : List Rd) (day : Int) (hl : l.length ≤ 1048577) (hg : nextOk l day = false) (c : Nat) (H : Heap) (t : Nat) (hS : Sl rdE H t l) :
    AFunC Try.prog 13 [.slice (some ⟨t, 0, none⟩) l.length c, .int .i64 day] H (.tuple #[.int .i64 0, .bool false]) H := by
  refine AFunC.of_body Try.func13 (by kernel_rfl) rfl (by kernel_rfl) (by simp [Try.ntmps13]) ?_
  have ht := hS.lt
  simp -dsimp -implicitDefEqProofs (disch := omega) [go_sem, -List.getD_eq_getElem?_getD, ite_yes]
  refine ACall.of (iValidReadings_A l hl c _ t hS) ?_
  cases g1 : good l
  · simp -dsimp -implicitDefEqProofs (disch := omega) [go_sem, -List.getD_eq_getElem?_getD, ite_yes]
    exact fin_flat0 rfl rfl
  · simp -dsimp -implicitDefEqProofs (disch := omega) [go_sem, -List.getD_eq_getElem?_getD, ite_yes]
    by_cases g2 : l.length < 2
    · have g2' : (l.length : Int) < 2 := by omega
      simp -dsimp -implicitDefEqProofs (disch := omega) [go_sem, -List.getD_eq_getElem?_getD, ite_yes, g2']
      exact fin_flat0 rfl rfl
    · have g2' : ¬ (l.length : Int) < 2 := by omega
      simp -dsimp -implicitDefEqProofs (disch := omega) [go_sem, -List.getD_eq_getElem?_getD, ite_yes, g2']
      refine ACall.of (isDay_A _ _) ?_
      cases g3 : inB day 0 3650
      · simp -dsimp -implicitDefEqProofs (disch := omega) [go_sem, -List.getD_eq_getElem?_getD, ite_yes]
        exact fin_flat0 rfl rfl
      · have cl := hS.cell (s := 2) (fun _ => rfl) (0, 0) (l.length - 1) 0 (by omega) (by omega)
        simp only [Nat.add_zero, rdE] at cl
        have g4 : day < (l.getD (l.length - 1) (0, 0)).1 := by
          simp [nextOk, g1, g3] at hg
          exact hg (by omega)
        simp -dsimp -implicitDefEqProofs (disch := omega) [go_sem, -List.getD_eq_getElem?_getD, ite_yes, cl, g4]
        exact fin_flat0 rfl rfl
theorem iNext_good (l : List Rd) (day : Int) (hl : l.length ≤ 1048577) (hg : nextOk l day = true) (c : Nat) (H : Heap) (t : Nat) (hS : Sl rdE H t l) :
    AFunC Try.prog 13 [.slice (some ⟨t, 0, none⟩) l.length c, .int .i64 day] H (.tuple #[.int .i64 (nextN l day), .bool true]) H := by
  refine AFunC.of_body Try.func13 (by kernel_rfl) rfl (by kernel_rfl) (by simp [Try.ntmps13]) ?_
  have ht := hS.lt
  obtain ⟨⟨n1, n2⟩, g1, ⟨d1, d2, d3⟩, ⟨a1, a2, a3, a4⟩, ⟨f1, f2⟩, ⟨p1, p2⟩, m1, m2⟩ := NextAt.of hg
  have cl := hS.cell (s := 2) (fun _ => rfl) (0, 0) (l.length - 1) 0 (by omega) (by omega)
  have cc := hS.cells (s := 2) (fun _ => rfl) (0, 0) (l.length - 1) (by omega)
  have c0 := hS.cell (s := 2) (fun _ => rfl) (0, 0) 0 0 (by omega) (by omega)
  simp only [Nat.add_zero, Nat.zero_mul, rdE] at cl cc c0
  rw [show l.getD (l.length - 1) (0, 0) = lastOf l from rfl] at cl cc
  have tb := tot_bound g1
  have hm : (2 * (uses l).sum * (day - (lastOf l).1) + ((lastOf l).1 - (l.getD 0 (0, 0)).1)) / (2 * ((lastOf l).1 - (l.getD 0 (0, 0)).1)) = moreN l day := rfl
  have nz : ¬ 2 * ((lastOf l).1 - (l.getD 0 (0, 0)).1) = 0 := by omega
  have g3 : inB day 0 3650 = true := by simp [inB, d1, d2]
  have n1' : ¬ (l.length : Int) < 2 := by omega
  have hu : (uses l).length ≤ 1048577 := by unfold uses; rw [usesTo_length]; omega
  simp -dsimp -implicitDefEqProofs (disch := omega) [go_sem, -List.getD_eq_getElem?_getD, ite_yes]
  refine ACall.of (iValidReadings_A l hl c _ t hS) ?_
  simp -dsimp -implicitDefEqProofs (disch := omega) [go_sem, -List.getD_eq_getElem?_getD, ite_yes, g1, n1']
  refine ACall.of (isDay_A _ _) ?_
  simp -dsimp -implicitDefEqProofs (disch := omega) [go_sem, -List.getD_eq_getElem?_getD, ite_yes, g3, cl]
  refine AIf.of (fun h => absurd (of_decide_eq_true h) (by omega)) (fun _ => ?_)
  simp -dsimp -implicitDefEqProofs (disch := omega) [go_sem, -List.getD_eq_getElem?_getD, ite_yes]
  refine ADraw.mid [(0, .slice (some ⟨t, 0, none⟩) l.length c), (1, .int .i64 day), (6, .pointer (some ⟨H.length, 0, none⟩)), (7, .int .i64 ((lastOf l).1 - (l.getD 0 (0, 0)).1))] (H ++ [some ⟨[.int .i64 (lastOf l).1, .int .i64 (lastOf l).2], true, 35, 1⟩]) ?_ ?_
  · refine ADraw.any _ (by kernel_rfl) (SubH.refl) ?_
    refine AAny.takes (fuel := 3) (by kernel_rfl) (by kernel_rfl) [0, 1, 2, 3, 4, 5, 6, 7, 8, 9, 10, 11, 12, 13, 14, 15, 16, 17] (by kernel_rfl) (by kernel_rfl) ?_
    simp -dsimp -implicitDefEqProofs (disch := omega) [go_sem, -List.getD_eq_getElem?_getD, ite_yes, ht, cl, cc, c0]
    refine AAny.one 2 18 (by kernel_rfl) (by kernel_rfl) (by kernel_rfl) ?_
    simp -dsimp -implicitDefEqProofs (disch := omega) [go_sem, -List.getD_eq_getElem?_getD, ite_yes, ht, cl, cc, c0]
    first | refine AAt.of (by first | exact SubH.refl | exact SubH.app | exact SubH.both (by simp [subL])) ?_ | (refine ⟨?_, AAt.of (by first | exact SubH.refl | exact SubH.app | exact SubH.both (by simp [subL])) ?_⟩; · omega)
    refine AAny.one 1 19 (by kernel_rfl) (by kernel_rfl) (by kernel_rfl) ?_
    simp -dsimp -implicitDefEqProofs (disch := omega) [go_sem, -List.getD_eq_getElem?_getD, ite_yes, ht, cl, cc, c0]
    first | refine AAt.of (by first | exact SubH.refl | exact SubH.app | exact SubH.both (by simp [subL])) ?_ | (refine ⟨?_, AAt.of (by first | exact SubH.refl | exact SubH.app | exact SubH.both (by simp [subL])) ?_⟩; · omega)
    refine AAny.takes (fuel := 0) (by kernel_rfl) (by kernel_rfl) [20] (by kernel_rfl) (by kernel_rfl) ?_
    simp -dsimp -implicitDefEqProofs (disch := omega) [go_sem, -List.getD_eq_getElem?_getD, ite_yes, ht, cl, cc, c0]
    refine AAny.done (by kernel_rfl) ?_
    simp -dsimp -implicitDefEqProofs (disch := omega) [go_sem, -List.getD_eq_getElem?_getD, ite_yes, ht, cl, cc, c0]
    exact ⟨weakS_mk [some 0] rfl (by simp -dsimp -implicitDefEqProofs (disch := omega) [go_sem, -List.getD_eq_getElem?_getD, ite_yes]; exact .inl ⟨rfl, rfl⟩) (by simp -dsimp -implicitDefEqProofs (disch := omega) [go_sem, -List.getD_eq_getElem?_getD, ite_yes, ht])⟩
  simp -dsimp -implicitDefEqProofs (disch := omega) [go_sem, -List.getD_eq_getElem?_getD, ite_yes, ht]
  refine ADraw.mid [(0, .slice (some ⟨t, 0, none⟩) l.length c), (1, .int .i64 day), (6, .pointer (some ⟨H.length, 0, none⟩)), (8, .int .i64 (moreN l day))] (H ++ [some ⟨[.int .i64 (lastOf l).1, .int .i64 (lastOf l).2], true, 35, 1⟩]) ?_ ?_
  · refine ADraw.any _ (by kernel_rfl) (SubH.refl) ?_
    refine AAny.takes (fuel := 7) (by kernel_rfl) (by kernel_rfl) [0, 4, 5, 6, 7, 9, 11, 12] (by kernel_rfl) (by kernel_rfl) ?_
    simp -dsimp -implicitDefEqProofs (disch := omega) [go_sem, -List.getD_eq_getElem?_getD, ite_yes, ht, nz, hm]
    refine AAny.one 6 1 (by kernel_rfl) (by kernel_rfl) (by kernel_rfl) ?_
    simp -dsimp -implicitDefEqProofs (disch := omega) [go_sem, -List.getD_eq_getElem?_getD, ite_yes, ht, nz, hm]
    refine ACall.of (usesOf_A l g1 c _ t hS.app) ?_
    simp -dsimp -implicitDefEqProofs (disch := omega) [go_sem, -List.getD_eq_getElem?_getD, ite_yes, ht, nz, hm]
    first | refine AAt.of (by first | exact SubH.refl | exact SubH.app | exact SubH.both (by simp [subL])) ?_ | (refine ⟨?_, AAt.of (by first | exact SubH.refl | exact SubH.app | exact SubH.both (by simp [subL])) ?_⟩; · omega)
    refine AAny.one 5 2 (by kernel_rfl) (by kernel_rfl) (by kernel_rfl) ?_
    simp -dsimp -implicitDefEqProofs (disch := omega) [go_sem, -List.getD_eq_getElem?_getD, ite_yes, ht, nz, hm]
    refine ACall.of (sumInts_A (uses l) uses_bound hu _ _ _ (Sl.nth 1 rfl rfl)) ?_
    simp -dsimp -implicitDefEqProofs (disch := omega) [go_sem, -List.getD_eq_getElem?_getD, ite_yes, ht, nz, hm]
    first | refine AAt.of (by first | exact SubH.refl | exact SubH.app | exact SubH.both (by simp [subL])) ?_ | (refine ⟨?_, AAt.of (by first | exact SubH.refl | exact SubH.app | exact SubH.both (by simp [subL])) ?_⟩; · omega)
    refine AAny.takes (fuel := 0) (by kernel_rfl) (by kernel_rfl) [3, 8, 10, 13, 14] (by kernel_rfl) (by kernel_rfl) ?_
    simp -dsimp -implicitDefEqProofs (disch := omega) [go_sem, -List.getD_eq_getElem?_getD, ite_yes, ht, nz, hm]
    refine AAny.done (by kernel_rfl) ?_
    simp -dsimp -implicitDefEqProofs (disch := omega) [go_sem, -List.getD_eq_getElem?_getD, ite_yes, ht, nz, hm]
    exact ⟨weakS_mk [some 0] rfl (by simp -dsimp -implicitDefEqProofs (disch := omega) [go_sem, -List.getD_eq_getElem?_getD, ite_yes]; exact .inl ⟨rfl, rfl⟩) (by simp -dsimp -implicitDefEqProofs (disch := omega) [go_sem, -List.getD_eq_getElem?_getD, ite_yes, ht])⟩
  simp -dsimp -implicitDefEqProofs (disch := omega) [go_sem, -List.getD_eq_getElem?_getD, ite_yes, ht]
  exact fin_flat rfl rfl
theorem sNext_bad (l : List Rd) (day : Int) (hl : l.length ≤ 1048577) (hg : nextOk l day = false) (c : Nat) (H : Heap) (t : Nat) (hS : Sl rdE H t l) :
    AFunC Try.prog 21 [.slice (some ⟨t, 0, none⟩) l.length c, .int .i64 day] H (.tuple #[.int .i64 0, .bool false]) H := by
  refine AFunC.of_body Try.func21 (by kernel_rfl) rfl (by kernel_rfl) (by simp [Try.ntmps21]) ?_
  have ht := hS.lt
  simp -dsimp -implicitDefEqProofs (disch := omega) [go_sem, -List.getD_eq_getElem?_getD, ite_yes]
  refine ACall.of (l19Good_A l hl c _ t hS) ?_
  cases g1 : good l
  · simp -dsimp -implicitDefEqProofs (disch := omega) [go_sem, -List.getD_eq_getElem?_getD, ite_yes]
    exact fin_flat0 rfl rfl
  · simp -dsimp -implicitDefEqProofs (disch := omega) [go_sem, -List.getD_eq_getElem?_getD, ite_yes]
    by_cases g2 : l.length < 2
    · have g2' : (l.length : Int) < 2 := by omega
      simp -dsimp -implicitDefEqProofs (disch := omega) [go_sem, -List.getD_eq_getElem?_getD, ite_yes, g2']
      exact fin_flat0 rfl rfl
    · have g2' : ¬ (l.length : Int) < 2 := by omega
      have cl := hS.cell (s := 2) (fun _ => rfl) (0, 0) (l.length - 1) 0 (by omega) (by omega)
      simp only [Nat.add_zero, rdE] at cl
      simp -dsimp -implicitDefEqProofs (disch := omega) [go_sem, -List.getD_eq_getElem?_getD, ite_yes, g2', cl]
      refine ACall.of (l1In_A _ _ _ _) ?_
      have g4 : inB day (l.getD (l.length - 1) (0, 0)).1 3650 = false := by
        have ha := (good_at g1).2 (l.length - 1) (by omega)
        have e : decide (2 ≤ l.length) = true := decide_eq_true (by omega)
        simp only [nextOk, lastOf, g1, e, Bool.true_and] at hg
        cases h3 : inB day (l.getD (l.length - 1) (0, 0)).1 3650
        · rfl
        · exfalso
          simp only [inB, Bool.and_eq_true, decide_eq_true_eq] at h3
          rw [show inB day 0 3650 = true by simp [inB]; omega, Bool.true_and] at hg
          exact of_decide_eq_false hg h3.1
      simp -dsimp -implicitDefEqProofs (disch := omega) [go_sem, -List.getD_eq_getElem?_getD, ite_yes, g4]
      exact fin_flat0 rfl rfl
theorem sNext_good (l : List Rd) (day : Int) (hl : l.length ≤ 1048577) (hg : nextOk l day = true) (c : Nat) (H : Heap) (t : Nat) (hS : Sl rdE H t l) :
    AFunC Try.prog 21 [.slice (some ⟨t, 0, none⟩) l.length c, .int .i64 day] H (.tuple #[.int .i64 (nextN l day), .bool true]) H := by
  refine AFunC.of_body Try.func21 (by kernel_rfl) rfl (by kernel_rfl) (by simp [Try.ntmps21]) ?_
  have ht := hS.lt
  obtain ⟨⟨n1, n2⟩, g1, ⟨d1, d2, d3⟩, ⟨a1, a2, a3, a4⟩, ⟨f1, f2⟩, ⟨p1, p2⟩, m1, m2⟩ := NextAt.of hg
  have cl := hS.cell (s := 2) (fun _ => rfl) (0, 0) (l.length - 1) 0 (by omega) (by omega)
  have cc := hS.cell (s := 2) (fun _ => rfl) (0, 0) (l.length - 1) 1 (by omega) (by omega)
  have c0 := hS.cell (s := 2) (fun _ => rfl) (0, 0) 0 0 (by omega) (by omega)
  simp only [Nat.add_zero, Nat.zero_mul, rdE] at cl cc c0
  rw [show l.getD (l.length - 1) (0, 0) = lastOf l from rfl] at cl cc
  have tb := tot_bound g1
  have hm : (2 * (uses l).sum * (day - (lastOf l).1) + ((lastOf l).1 - (l.getD 0 (0, 0)).1)) / (2 * ((lastOf l).1 - (l.getD 0 (0, 0)).1)) = moreN l day := rfl
  have nz : ¬ 2 * ((lastOf l).1 - (l.getD 0 (0, 0)).1) = 0 := by omega
  have g3 : inB day (lastOf l).1 3650 = true := by simp [inB]; omega
  have n1' : ¬ (l.length : Int) < 2 := by omega
  simp -dsimp -implicitDefEqProofs (disch := omega) [go_sem, -List.getD_eq_getElem?_getD, ite_yes]
  refine ACall.of (l19Good_A l hl c _ t hS) ?_
  simp -dsimp -implicitDefEqProofs (disch := omega) [go_sem, -List.getD_eq_getElem?_getD, ite_yes, g1, n1', cl]
  refine ACall.of (l1In_A _ _ _ _) ?_
  simp -dsimp -implicitDefEqProofs (disch := omega) [go_sem, -List.getD_eq_getElem?_getD, ite_yes, g3]
  refine ADraw.quiet (by kernel_rfl) (by kernel_rfl) (by kernel_rfl) ?_
  simp -dsimp -implicitDefEqProofs (disch := omega) [go_sem, -List.getD_eq_getElem?_getD, ite_yes, cl, c0]
  refine ADraw.quiet (by kernel_rfl) (by kernel_rfl) (by kernel_rfl) ?_
  simp -dsimp -implicitDefEqProofs (disch := omega) [go_sem, -List.getD_eq_getElem?_getD, ite_yes]
  refine ACallQ.of (l19Total_A l l.length (Nat.le_refl _) g1 c _ t hS.ro) rfl ?_
  rw [show usesTo l l.length = uses l from rfl]
  simp -dsimp -implicitDefEqProofs (disch := omega) [go_sem, -List.getD_eq_getElem?_getD, ite_yes, cl, nz, hm]
  simp -dsimp -implicitDefEqProofs (disch := omega) [go_sem, -List.getD_eq_getElem?_getD, ite_yes, cc]
  exact fin_flat0 rfl rfl
end Go.Proofs.Ytfpikkhbkmchgaa
