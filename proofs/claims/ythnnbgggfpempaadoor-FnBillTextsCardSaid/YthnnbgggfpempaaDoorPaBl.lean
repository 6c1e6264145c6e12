/- Bills out of texts: both sides, and the law. -/
import Derived.Test.YthnnbgggfpempaaDoorBlP
import Derived.Test.YthnnbgggfpempaaDoorCut
import Derived.Test.YthnnbgggfpempaaDoorSplit
import Derived.Test.YthnnbgggfpempaaDoorRecNm
namespace Go.Proofs.YthnnbgggfpempaaDoor
open Go.Am Go.Lib
set_option linter.unusedVariables false
set_option linter.unusedSimpArgs false
set_option maxRecDepth 100000
set_option maxHeartbeats 4000000
noncomputable def outs (l : List UInt8) : Nat → List Int
  | 0 => []
  | 1 => [numM l mk0]
  | 2 => [numM l mk0, numM l mk1]
  | 3 => [numM l mk0, numM l mk1, numM l mk2]
  | _ => [numM l mk0, numM l mk1, numM l mk2, num3 l]
def alive (l : List UInt8) : Nat → Prop
  | 0 => True
  | 1 => (cr l mk0).2 = true
  | 2 => (cr l mk0).2 = true ∧ (cr l mk1).2 = true
  | 3 => (cr l mk0).2 = true ∧ (cr l mk1).2 = true ∧ (cr l mk2).2 = true
  | _ => (cr l mk0).2 = true ∧ (cr l mk1).2 = true ∧ (cr l mk2).2 = true ∧ (cr l mk3).2 = true
theorem cut_len (l m : List UInt8) : (Lib.cut l m).2.1.length ≤ l.length := by
  rw [Lib.cut]
  split
  · simp
  · simp
theorem trimS_len (l : List UInt8) : (trimS l).length ≤ l.length := by
  rw [trimS]; split <;> simp
theorem trimSp_A (l : List UInt8) (hl : l.length ≤ 1048577) (H : Heap) : AFunC Tryd.prog 80 [.string (bs l), .string (bs [32])] H (.string (bs (trimS l))) H := trimPrefix_A l [32] hl (by simp) H
theorem iParBl_A (l : List UInt8) (hl : l.length ≤ 1048577) (H : Heap) : AFunC Tryd.prog 24 [.string (bs l)] H (.tuple #[.agg #[.int .i64 (parBl l).1.1, .int .i64 (parBl l).1.2.1, .int .i64 (parBl l).1.2.2.1, .int .i64 (parBl l).1.2.2.2], .bool (parBl l).2]) H := by
  refine AFunC.of_body Tryd.func24 (by kernel_rfl) rfl (by kernel_rfl) (by simp [Tryd.ntmps24]) ?_
  simp -dsimp -implicitDefEqProofs (disch := omega) [go_sem, -List.getD_eq_getElem?_getD, ite_yes]
  refine ALoop.intro (ι := Nat) (fun k => k ≤ 4 ∧ alive l k)
    (fun k => [(0, .string (bs l)), (2, .pointer (some ⟨H.length, 0, none⟩)), (4, .slice (some ⟨H.length + 1, 0, none⟩) (outs l k).length (outs l k).length), (12, .slice (some ⟨H.length + 2, 0, none⟩) 4 4), (13, .int .i64 4), (14, .int .i64 k)])
    (fun k => H ++ [some ⟨[.int .i64 0, .int .i64 0, .int .i64 0, .int .i64 0], true, 42, 1⟩, some ⟨(outs l k).flatMap nmE, true, 3, 1⟩, some ⟨[.string (bs [98, 105, 108, 108, 32]), .string (bs [32, 111, 102, 32, 100, 97, 121, 32]), .string (bs [58, 32]), .string (bs [44, 32, 112, 97, 105, 100])], true, 9, 1⟩]) (fun k => 4 - k) 0 ⟨by omega, trivial⟩ ?_ ?_
  · refine weakS_mk [some 0, some 1, some 2] rfl ?_ (by simp -dsimp -implicitDefEqProofs (disch := omega) [go_sem, -List.getD_eq_getElem?_getD, ite_yes, outs])
    simp -dsimp -implicitDefEqProofs (disch := omega) [go_sem, -List.getD_eq_getElem?_getD, ite_yes, outs]
    exact ⟨.inl ⟨rfl, rfl⟩, .inl ⟨rfl, rfl⟩, .inl ⟨rfl, rfl⟩⟩
  rintro k ⟨hk, hal⟩
  have hk5 : k = 0 ∨ k = 1 ∨ k = 2 ∨ k = 3 ∨ k = 4 := by omega
  rcases hk5 with rfl | rfl | rfl | rfl | rfl
  · simp -dsimp -implicitDefEqProofs (disch := omega) [go_sem, -List.getD_eq_getElem?_getD, ite_yes, outs]
    refine ACall.of (cut_A l [98, 105, 108, 108, 32] hl _) ?_
    have hcl := cut_len l [98, 105, 108, 108, 32]
    have hcr : cr l mk0 = ((Lib.cut l [98, 105, 108, 108, 32]).2.1, (Lib.cut l [98, 105, 108, 108, 32]).2.2) := rfl
    generalize Lib.cut l [98, 105, 108, 108, 32] = c at hcl hcr
    obtain ⟨pre, rest, fnd⟩ := c
    simp only at hcl hcr
    cases fnd
    · have hB : bilL l = outs l 0 := by
        rw [bilL, if_neg (by rw [hcr]; simp)]; rfl
      simp -dsimp -implicitDefEqProofs (disch := omega) [go_sem, -List.getD_eq_getElem?_getD, ite_yes, outs]
      exact fin_flat rfl (by rw [parBl_no fun r hr e => by have := bil_text hr; rw [e, hB] at this; simp [outs] at this])
    · have htl := trimS_len rest
      have hnm : numM l mk0 = (fstN 0 0 (trimS rest) : Nat) := by rw [numM, hcr]
      simp -dsimp -implicitDefEqProofs (disch := omega) [go_sem, -List.getD_eq_getElem?_getD, ite_yes, outs, nmE]
      refine ACall.of (trimSp_A rest (by omega) _) ?_
      simp -dsimp -implicitDefEqProofs (disch := omega) [go_sem, -List.getD_eq_getElem?_getD, ite_yes, outs, nmE]
      refine ACall.of (firstNumber_A (trimS rest) (by omega) _) ?_
      rw [← hnm]
      simp -dsimp -implicitDefEqProofs (disch := omega) [go_sem, -List.getD_eq_getElem?_getD, ite_yes, outs, nmE]
      refine LoopEnd.of 1 ⟨by simp, ?_⟩ (by simp) (weakS_mk [some 0, some 4, some 2] rfl ?_ (by simp -dsimp -implicitDefEqProofs (disch := omega) [go_sem, -List.getD_eq_getElem?_getD, ite_yes, outs]))
      · exact by show (cr l mk0).2 = true; rw [hcr]
      simp -dsimp -implicitDefEqProofs (disch := omega) [go_sem, -List.getD_eq_getElem?_getD, ite_yes, outs, nmE]
      exact ⟨.inl ⟨rfl, rfl⟩, .inl ⟨rfl, rfl⟩, .inl ⟨rfl, rfl⟩⟩
  · simp -dsimp -implicitDefEqProofs (disch := omega) [go_sem, -List.getD_eq_getElem?_getD, ite_yes, outs]
    refine ACall.of (cut_A l [32, 111, 102, 32, 100, 97, 121, 32] hl _) ?_
    have hcl := cut_len l [32, 111, 102, 32, 100, 97, 121, 32]
    have hcr : cr l mk1 = ((Lib.cut l [32, 111, 102, 32, 100, 97, 121, 32]).2.1, (Lib.cut l [32, 111, 102, 32, 100, 97, 121, 32]).2.2) := rfl
    generalize Lib.cut l [32, 111, 102, 32, 100, 97, 121, 32] = c at hcl hcr
    obtain ⟨pre, rest, fnd⟩ := c
    simp only at hcl hcr
    cases fnd
    · have hB : bilL l = outs l 1 := by
        have a0 : (cr l mk0).2 = true := hal
        rw [bilL, if_pos a0, if_neg (by rw [hcr]; simp)]; rfl
      simp -dsimp -implicitDefEqProofs (disch := omega) [go_sem, -List.getD_eq_getElem?_getD, ite_yes, outs]
      exact fin_flat rfl (by rw [parBl_no fun r hr e => by have := bil_text hr; rw [e, hB] at this; simp [outs] at this])
    · have htl := trimS_len rest
      have hnm : numM l mk1 = (fstN 0 0 (trimS rest) : Nat) := by rw [numM, hcr]
      simp -dsimp -implicitDefEqProofs (disch := omega) [go_sem, -List.getD_eq_getElem?_getD, ite_yes, outs, nmE]
      refine ACall.of (trimSp_A rest (by omega) _) ?_
      simp -dsimp -implicitDefEqProofs (disch := omega) [go_sem, -List.getD_eq_getElem?_getD, ite_yes, outs, nmE]
      refine ACall.of (firstNumber_A (trimS rest) (by omega) _) ?_
      rw [← hnm]
      simp -dsimp -implicitDefEqProofs (disch := omega) [go_sem, -List.getD_eq_getElem?_getD, ite_yes, outs, nmE]
      refine LoopEnd.of 2 ⟨by simp, ?_⟩ (by simp) (weakS_mk [some 0, some 4, some 2] rfl ?_ (by simp -dsimp -implicitDefEqProofs (disch := omega) [go_sem, -List.getD_eq_getElem?_getD, ite_yes, outs]))
      · exact ⟨hal, by rw [hcr]⟩
      simp -dsimp -implicitDefEqProofs (disch := omega) [go_sem, -List.getD_eq_getElem?_getD, ite_yes, outs, nmE]
      exact ⟨.inl ⟨rfl, rfl⟩, .inl ⟨rfl, rfl⟩, .inl ⟨rfl, rfl⟩⟩
  · simp -dsimp -implicitDefEqProofs (disch := omega) [go_sem, -List.getD_eq_getElem?_getD, ite_yes, outs]
    refine ACall.of (cut_A l [58, 32] hl _) ?_
    have hcl := cut_len l [58, 32]
    have hcr : cr l mk2 = ((Lib.cut l [58, 32]).2.1, (Lib.cut l [58, 32]).2.2) := rfl
    generalize Lib.cut l [58, 32] = c at hcl hcr
    obtain ⟨pre, rest, fnd⟩ := c
    simp only at hcl hcr
    cases fnd
    · have hB : bilL l = outs l 2 := by
        obtain ⟨a0, a1⟩ := hal
        rw [bilL, if_pos a0, if_pos a1, if_neg (by rw [hcr]; simp)]; rfl
      simp -dsimp -implicitDefEqProofs (disch := omega) [go_sem, -List.getD_eq_getElem?_getD, ite_yes, outs]
      exact fin_flat rfl (by rw [parBl_no fun r hr e => by have := bil_text hr; rw [e, hB] at this; simp [outs] at this])
    · have htl := trimS_len rest
      have hnm : numM l mk2 = (fstN 0 0 (trimS rest) : Nat) := by rw [numM, hcr]
      simp -dsimp -implicitDefEqProofs (disch := omega) [go_sem, -List.getD_eq_getElem?_getD, ite_yes, outs, nmE]
      refine ACall.of (trimSp_A rest (by omega) _) ?_
      simp -dsimp -implicitDefEqProofs (disch := omega) [go_sem, -List.getD_eq_getElem?_getD, ite_yes, outs, nmE]
      refine ACall.of (firstNumber_A (trimS rest) (by omega) _) ?_
      rw [← hnm]
      simp -dsimp -implicitDefEqProofs (disch := omega) [go_sem, -List.getD_eq_getElem?_getD, ite_yes, outs, nmE]
      refine LoopEnd.of 3 ⟨by simp, ?_⟩ (by simp) (weakS_mk [some 0, some 4, some 2] rfl ?_ (by simp -dsimp -implicitDefEqProofs (disch := omega) [go_sem, -List.getD_eq_getElem?_getD, ite_yes, outs]))
      · exact ⟨hal.1, hal.2, by rw [hcr]⟩
      simp -dsimp -implicitDefEqProofs (disch := omega) [go_sem, -List.getD_eq_getElem?_getD, ite_yes, outs, nmE]
      exact ⟨.inl ⟨rfl, rfl⟩, .inl ⟨rfl, rfl⟩, .inl ⟨rfl, rfl⟩⟩
  · simp -dsimp -implicitDefEqProofs (disch := omega) [go_sem, -List.getD_eq_getElem?_getD, ite_yes, outs]
    refine ACall.of (cut_A l [44, 32, 112, 97, 105, 100] hl _) ?_
    have hcl := cut_len l [44, 32, 112, 97, 105, 100]
    have hcr : cr l mk3 = ((Lib.cut l [44, 32, 112, 97, 105, 100]).2.1, (Lib.cut l [44, 32, 112, 97, 105, 100]).2.2) := rfl
    generalize Lib.cut l [44, 32, 112, 97, 105, 100] = c at hcl hcr
    obtain ⟨pre, rest, fnd⟩ := c
    simp only at hcl hcr
    cases fnd
    · have hB : bilL l = outs l 3 := by
        obtain ⟨a0, a1, a2⟩ := hal
        rw [bilL, if_pos a0, if_pos a1, if_pos a2, if_neg (by rw [hcr]; simp)]; rfl
      have key : ∀ r, isBl r = true → blText r = l → r = (numM l mk0, numM l mk1, numM l mk2, 0) := fun r hr e => by
        have h := bil_text hr
        rw [e, hB] at h
        obtain ⟨x0, x1, x2, x3⟩ := r
        simp only [outs, List.cons.injEq] at h
        obtain ⟨y0, y1, y2, y3⟩ := h
        by_cases hz : x3 = 0
        · rw [y0, y1, y2, hz]
        · rw [if_neg hz] at y3; cases y3
      simp -dsimp -implicitDefEqProofs (disch := omega) [go_sem, -List.getD_eq_getElem?_getD, ite_yes, outs, outs, nmE]
      refine ADraw.any _ (by kernel_rfl) (SubH.refl) ?_
      refine AAny.takes (fuel := 3) (by kernel_rfl) (by kernel_rfl) [0, 1, 2, 3, 4, 5, 6, 7, 8] (by kernel_rfl) (by kernel_rfl) ?_
      simp -dsimp -implicitDefEqProofs (disch := omega) [go_sem, -List.getD_eq_getElem?_getD, ite_yes, outs, nmE]
      refine AAny.two 2 9 10 (by kernel_rfl) (by kernel_rfl) (by kernel_rfl) ?_ ?_
      · simp -dsimp -implicitDefEqProofs (disch := omega) [go_sem, -List.getD_eq_getElem?_getD, ite_yes, outs, nmE]
        first | refine AAt.of (by first | exact SubH.refl | exact SubH.app | exact SubH.both (by simp [subL])) ?_ | (refine ⟨?_, AAt.of (by first | exact SubH.refl | exact SubH.app | exact SubH.both (by simp [subL])) ?_⟩; · omega)
        refine AAny.one 1 10 (by kernel_rfl) (by kernel_rfl) (by kernel_rfl) ?_
        simp -dsimp -implicitDefEqProofs (disch := omega) [go_sem, -List.getD_eq_getElem?_getD, ite_yes, outs, nmE]
        first | refine AAt.of (by first | exact SubH.refl | exact SubH.app | exact SubH.both (by simp [subL])) ?_ | (refine ⟨?_, AAt.of (by first | exact SubH.refl | exact SubH.app | exact SubH.both (by simp [subL])) ?_⟩; · omega)
        refine AAny.one 0 11 (by kernel_rfl) (by kernel_rfl) (by kernel_rfl) ?_
        simp -dsimp -implicitDefEqProofs (disch := omega) [go_sem, -List.getD_eq_getElem?_getD, ite_yes, outs, nmE]
        first | refine AAt.of (by first | exact SubH.refl | exact SubH.app | exact SubH.both (by simp [subL])) ?_ | (refine ⟨?_, AAt.of (by first | exact SubH.refl | exact SubH.app | exact SubH.both (by simp [subL])) ?_⟩; · omega)
        refine AAny.done (by kernel_rfl) ?_
        simp -dsimp -implicitDefEqProofs (disch := omega) [go_sem, -List.getD_eq_getElem?_getD, ite_yes, outs, nmE]
        refine ACall.of (isBill_A (numM l mk0, numM l mk1, numM l mk2, 0) _) ?_
        cases hr : isBl (numM l mk0, numM l mk1, numM l mk2, 0)
        · simp -dsimp -implicitDefEqProofs (disch := omega) [go_sem, -List.getD_eq_getElem?_getD, ite_yes]
          exact fin_flat rfl (by rw [parBl_no fun r hr' e => by rw [key r hr' e, hr] at hr'; cases hr'])
        · simp -dsimp -implicitDefEqProofs (disch := omega) [go_sem, -List.getD_eq_getElem?_getD, ite_yes]
          refine ACall.of (billText_A (numM l mk0, numM l mk1, numM l mk2, 0) hr _) ?_
          by_cases ht : blText (numM l mk0, numM l mk1, numM l mk2, 0) = l
          · simp -dsimp -implicitDefEqProofs (disch := omega) [go_sem, -List.getD_eq_getElem?_getD, ite_yes, ht]
            exact fin_flat rfl (by rw [parBl_yes hr ht])
          · have htb := beq_false_of_ne ht
            simp -dsimp -implicitDefEqProofs (disch := omega) [go_sem, -List.getD_eq_getElem?_getD, ite_yes, ht, htb]
            exact fin_flat rfl (by rw [parBl_no fun r hr' e => by rw [key r hr' e] at e; exact ht e])
      · simp -dsimp -implicitDefEqProofs (disch := omega) [go_sem, -List.getD_eq_getElem?_getD, ite_yes, outs, nmE]
        first | refine AAt.of (by first | exact SubH.refl | exact SubH.app | exact SubH.both (by simp [subL])) ?_ | (refine ⟨?_, AAt.of (by first | exact SubH.refl | exact SubH.app | exact SubH.both (by simp [subL])) ?_⟩; · omega)
        refine AAny.one 1 9 (by kernel_rfl) (by kernel_rfl) (by kernel_rfl) ?_
        simp -dsimp -implicitDefEqProofs (disch := omega) [go_sem, -List.getD_eq_getElem?_getD, ite_yes, outs, nmE]
        first | refine AAt.of (by first | exact SubH.refl | exact SubH.app | exact SubH.both (by simp [subL])) ?_ | (refine ⟨?_, AAt.of (by first | exact SubH.refl | exact SubH.app | exact SubH.both (by simp [subL])) ?_⟩; · omega)
        refine AAny.one 0 11 (by kernel_rfl) (by kernel_rfl) (by kernel_rfl) ?_
        simp -dsimp -implicitDefEqProofs (disch := omega) [go_sem, -List.getD_eq_getElem?_getD, ite_yes, outs, nmE]
        first | refine AAt.of (by first | exact SubH.refl | exact SubH.app | exact SubH.both (by simp [subL])) ?_ | (refine ⟨?_, AAt.of (by first | exact SubH.refl | exact SubH.app | exact SubH.both (by simp [subL])) ?_⟩; · omega)
        refine AAny.done (by kernel_rfl) ?_
        simp -dsimp -implicitDefEqProofs (disch := omega) [go_sem, -List.getD_eq_getElem?_getD, ite_yes, outs, nmE]
        refine ACall.of (isBill_A (numM l mk0, numM l mk1, numM l mk2, 0) _) ?_
        cases hr : isBl (numM l mk0, numM l mk1, numM l mk2, 0)
        · simp -dsimp -implicitDefEqProofs (disch := omega) [go_sem, -List.getD_eq_getElem?_getD, ite_yes]
          exact fin_flat rfl (by rw [parBl_no fun r hr' e => by rw [key r hr' e, hr] at hr'; cases hr'])
        · simp -dsimp -implicitDefEqProofs (disch := omega) [go_sem, -List.getD_eq_getElem?_getD, ite_yes]
          refine ACall.of (billText_A (numM l mk0, numM l mk1, numM l mk2, 0) hr _) ?_
          by_cases ht : blText (numM l mk0, numM l mk1, numM l mk2, 0) = l
          · simp -dsimp -implicitDefEqProofs (disch := omega) [go_sem, -List.getD_eq_getElem?_getD, ite_yes, ht]
            exact fin_flat rfl (by rw [parBl_yes hr ht])
          · have htb := beq_false_of_ne ht
            simp -dsimp -implicitDefEqProofs (disch := omega) [go_sem, -List.getD_eq_getElem?_getD, ite_yes, ht, htb]
            exact fin_flat rfl (by rw [parBl_no fun r hr' e => by rw [key r hr' e] at e; exact ht e])
    · have htl := trimS_len rest
      have hnm : numM l mk3 = (fstN 0 0 (trimS rest) : Nat) := by rw [numM, hcr]
      simp -dsimp -implicitDefEqProofs (disch := omega) [go_sem, -List.getD_eq_getElem?_getD, ite_yes, outs, nmE]
      refine ACall.of (trimSp_A rest (by omega) _) ?_
      simp -dsimp -implicitDefEqProofs (disch := omega) [go_sem, -List.getD_eq_getElem?_getD, ite_yes, outs, nmE]
      refine ACall.of (firstNumber_A (trimS rest) (by omega) _) ?_
      rw [← hnm]
      by_cases hre : rest = []
      · subst hre
        have hn3 : num3 l = numM l mk2 := by rw [num3, hcr, if_pos rfl]
        simp -dsimp -implicitDefEqProofs (disch := omega) [go_sem, -List.getD_eq_getElem?_getD, ite_yes, outs, nmE]
        refine LoopEnd.of 4 ⟨by simp, ?_⟩ (by simp) (weakS_mk [some 0, some 4, some 2] rfl ?_ (by simp -dsimp -implicitDefEqProofs (disch := omega) [go_sem, -List.getD_eq_getElem?_getD, ite_yes, outs, hn3]))
        · exact ⟨hal.1, hal.2.1, hal.2.2, by rw [hcr]⟩
        simp -dsimp -implicitDefEqProofs (disch := omega) [go_sem, -List.getD_eq_getElem?_getD, ite_yes, outs, nmE, hn3]
        exact ⟨.inl ⟨rfl, rfl⟩, .inl ⟨rfl, rfl⟩, .inl ⟨rfl, rfl⟩⟩
      · have hreb := beq_false_of_ne hre
        have hn3 : num3 l = numM l mk3 := by rw [num3, hcr, if_neg hre]
        simp -dsimp -implicitDefEqProofs (disch := omega) [go_sem, -List.getD_eq_getElem?_getD, ite_yes, outs, nmE, hre, hreb]
        refine LoopEnd.of 4 ⟨by simp, ?_⟩ (by simp) (weakS_mk [some 0, some 4, some 2] rfl ?_ (by simp -dsimp -implicitDefEqProofs (disch := omega) [go_sem, -List.getD_eq_getElem?_getD, ite_yes, outs, hn3]))
        · exact ⟨hal.1, hal.2.1, hal.2.2, by rw [hcr]⟩
        simp -dsimp -implicitDefEqProofs (disch := omega) [go_sem, -List.getD_eq_getElem?_getD, ite_yes, outs, nmE, hn3]
        exact ⟨.inl ⟨rfl, rfl⟩, .inl ⟨rfl, rfl⟩, .inl ⟨rfl, rfl⟩⟩
  · have hB : bilL l = outs l 4 := by
      obtain ⟨a0, a1, a2, a3⟩ := hal
      rw [bilL, if_pos a0, if_pos a1, if_pos a2, if_pos a3]; rfl
    have key : ∀ r, isBl r = true → blText r = l → r = (numM l mk0, numM l mk1, numM l mk2, num3 l) := fun r hr e => by
      have h := bil_text hr
      rw [e, hB] at h
      obtain ⟨x0, x1, x2, x3⟩ := r
      simp only [outs, List.cons.injEq] at h
      obtain ⟨y0, y1, y2, y3⟩ := h
      by_cases hz : x3 = 0
      · rw [if_pos hz] at y3; cases y3
      · rw [if_neg hz] at y3; cases y3; rw [y0, y1, y2]
    simp -dsimp -implicitDefEqProofs (disch := omega) [go_sem, -List.getD_eq_getElem?_getD, ite_yes, outs, outs, nmE]
    refine ADraw.any _ (by kernel_rfl) (SubH.refl) ?_
    refine AAny.takes (fuel := 3) (by kernel_rfl) (by kernel_rfl) [0, 1, 2, 3, 4, 5, 6, 7, 8] (by kernel_rfl) (by kernel_rfl) ?_
    simp -dsimp -implicitDefEqProofs (disch := omega) [go_sem, -List.getD_eq_getElem?_getD, ite_yes, outs, nmE]
    refine AAny.two 2 9 10 (by kernel_rfl) (by kernel_rfl) (by kernel_rfl) ?_ ?_
    · simp -dsimp -implicitDefEqProofs (disch := omega) [go_sem, -List.getD_eq_getElem?_getD, ite_yes, outs, nmE]
      first | refine AAt.of (by first | exact SubH.refl | exact SubH.app | exact SubH.both (by simp [subL])) ?_ | (refine ⟨?_, AAt.of (by first | exact SubH.refl | exact SubH.app | exact SubH.both (by simp [subL])) ?_⟩; · omega)
      refine AAny.one 1 10 (by kernel_rfl) (by kernel_rfl) (by kernel_rfl) ?_
      simp -dsimp -implicitDefEqProofs (disch := omega) [go_sem, -List.getD_eq_getElem?_getD, ite_yes, outs, nmE]
      first | refine AAt.of (by first | exact SubH.refl | exact SubH.app | exact SubH.both (by simp [subL])) ?_ | (refine ⟨?_, AAt.of (by first | exact SubH.refl | exact SubH.app | exact SubH.both (by simp [subL])) ?_⟩; · omega)
      refine AAny.one 0 11 (by kernel_rfl) (by kernel_rfl) (by kernel_rfl) ?_
      simp -dsimp -implicitDefEqProofs (disch := omega) [go_sem, -List.getD_eq_getElem?_getD, ite_yes, outs, nmE]
      first | refine AAt.of (by first | exact SubH.refl | exact SubH.app | exact SubH.both (by simp [subL])) ?_ | (refine ⟨?_, AAt.of (by first | exact SubH.refl | exact SubH.app | exact SubH.both (by simp [subL])) ?_⟩; · omega)
      refine AAny.done (by kernel_rfl) ?_
      simp -dsimp -implicitDefEqProofs (disch := omega) [go_sem, -List.getD_eq_getElem?_getD, ite_yes, outs, nmE]
      refine ACall.of (isBill_A (numM l mk0, numM l mk1, numM l mk2, num3 l) _) ?_
      cases hr : isBl (numM l mk0, numM l mk1, numM l mk2, num3 l)
      · simp -dsimp -implicitDefEqProofs (disch := omega) [go_sem, -List.getD_eq_getElem?_getD, ite_yes]
        exact fin_flat rfl (by rw [parBl_no fun r hr' e => by rw [key r hr' e, hr] at hr'; cases hr'])
      · simp -dsimp -implicitDefEqProofs (disch := omega) [go_sem, -List.getD_eq_getElem?_getD, ite_yes]
        refine ACall.of (billText_A (numM l mk0, numM l mk1, numM l mk2, num3 l) hr _) ?_
        by_cases ht : blText (numM l mk0, numM l mk1, numM l mk2, num3 l) = l
        · simp -dsimp -implicitDefEqProofs (disch := omega) [go_sem, -List.getD_eq_getElem?_getD, ite_yes, ht]
          exact fin_flat rfl (by rw [parBl_yes hr ht])
        · have htb := beq_false_of_ne ht
          simp -dsimp -implicitDefEqProofs (disch := omega) [go_sem, -List.getD_eq_getElem?_getD, ite_yes, ht, htb]
          exact fin_flat rfl (by rw [parBl_no fun r hr' e => by rw [key r hr' e] at e; exact ht e])
    · simp -dsimp -implicitDefEqProofs (disch := omega) [go_sem, -List.getD_eq_getElem?_getD, ite_yes, outs, nmE]
      first | refine AAt.of (by first | exact SubH.refl | exact SubH.app | exact SubH.both (by simp [subL])) ?_ | (refine ⟨?_, AAt.of (by first | exact SubH.refl | exact SubH.app | exact SubH.both (by simp [subL])) ?_⟩; · omega)
      refine AAny.one 1 9 (by kernel_rfl) (by kernel_rfl) (by kernel_rfl) ?_
      simp -dsimp -implicitDefEqProofs (disch := omega) [go_sem, -List.getD_eq_getElem?_getD, ite_yes, outs, nmE]
      first | refine AAt.of (by first | exact SubH.refl | exact SubH.app | exact SubH.both (by simp [subL])) ?_ | (refine ⟨?_, AAt.of (by first | exact SubH.refl | exact SubH.app | exact SubH.both (by simp [subL])) ?_⟩; · omega)
      refine AAny.one 0 11 (by kernel_rfl) (by kernel_rfl) (by kernel_rfl) ?_
      simp -dsimp -implicitDefEqProofs (disch := omega) [go_sem, -List.getD_eq_getElem?_getD, ite_yes, outs, nmE]
      first | refine AAt.of (by first | exact SubH.refl | exact SubH.app | exact SubH.both (by simp [subL])) ?_ | (refine ⟨?_, AAt.of (by first | exact SubH.refl | exact SubH.app | exact SubH.both (by simp [subL])) ?_⟩; · omega)
      refine AAny.done (by kernel_rfl) ?_
      simp -dsimp -implicitDefEqProofs (disch := omega) [go_sem, -List.getD_eq_getElem?_getD, ite_yes, outs, nmE]
      refine ACall.of (isBill_A (numM l mk0, numM l mk1, numM l mk2, num3 l) _) ?_
      cases hr : isBl (numM l mk0, numM l mk1, numM l mk2, num3 l)
      · simp -dsimp -implicitDefEqProofs (disch := omega) [go_sem, -List.getD_eq_getElem?_getD, ite_yes]
        exact fin_flat rfl (by rw [parBl_no fun r hr' e => by rw [key r hr' e, hr] at hr'; cases hr'])
      · simp -dsimp -implicitDefEqProofs (disch := omega) [go_sem, -List.getD_eq_getElem?_getD, ite_yes]
        refine ACall.of (billText_A (numM l mk0, numM l mk1, numM l mk2, num3 l) hr _) ?_
        by_cases ht : blText (numM l mk0, numM l mk1, numM l mk2, num3 l) = l
        · simp -dsimp -implicitDefEqProofs (disch := omega) [go_sem, -List.getD_eq_getElem?_getD, ite_yes, ht]
          exact fin_flat rfl (by rw [parBl_yes hr ht])
        · have htb := beq_false_of_ne ht
          simp -dsimp -implicitDefEqProofs (disch := omega) [go_sem, -List.getD_eq_getElem?_getD, ite_yes, ht, htb]
          exact fin_flat rfl (by rw [parBl_no fun r hr' e => by rw [key r hr' e] at e; exact ht e])
theorem bl_split {r : Bl} (h : isBl r = true) : ∃ a b c d : Nat, r = ((a : Int), (b : Int), (c : Int), (d : Int)) ∧ a ≤ 999 ∧ b ≤ 3650 ∧ 1 ≤ c ∧ c ≤ 1000000000 ∧ d ≤ c ∧ splitB 32 (blText r) =
    [[98, 105, 108, 108], decDigits a, [111, 102], [100, 97, 121], decDigits b ++ [58]] ++ (if d = c then [eurD c ++ [44], [112, 97, 105, 100]] else if 0 < d then [eurD c ++ [44], [112, 97, 105, 100], eurD d] else [eurD c]) := by
  obtain ⟨a, b, c, d, e, h1, h2, h3, h4, h5, h6⟩ := blNat h
  refine ⟨a, b, c, d, e, h2, h3, h4, h5, h6, ?_⟩
  have na : ∀ x ∈ decDigits a, x ≠ 32 := fun x hx => dg_ne (dec_all a x hx) (by decide)
  have nb : ∀ x ∈ decDigits b ++ [58], x ≠ 32 := fun x hx => by
    rcases List.mem_append.1 hx with hx | hx
    · exact dg_ne (dec_all b x hx) (by decide)
    · obtain rfl : x = 58 := by simpa using hx
      decide
  have nc : ∀ x ∈ eurD c, x ≠ 32 := eurD_no (by decide) (by decide)
  have nc2 : ∀ x ∈ eurD c ++ [44], x ≠ 32 := fun x hx => by
    rcases List.mem_append.1 hx with hx | hx
    · exact nc x hx
    · obtain rfl : x = 44 := by simpa using hx
      decide
  have nd : ∀ x ∈ eurD d, x ≠ 32 := eurD_no (by decide) (by decide)
  have e2 : blText ((a : Int), (b : Int), (c : Int), (d : Int)) = [98, 105, 108, 108] ++ 32 :: (decDigits a ++ 32 :: ([111, 102] ++ 32 :: ([100, 97, 121] ++ 32 :: ((decDigits b ++ [58]) ++ 32 :: (eurD c ++ paidD c d))))) := by
    rw [blText_nat]; simp
  rw [e, e2, splitB_word (by decide), splitB_word na, splitB_word (by decide), splitB_word (by decide), splitB_word nb, paidD]
  by_cases x1 : d = c
  · have q : eurD c ++ [44, 32, 112, 97, 105, 100] = (eurD c ++ [44]) ++ 32 :: [112, 97, 105, 100] := by simp
    rw [if_pos x1, if_pos x1, q, splitB_word nc2, splitB_last (by decide)]; rfl
  · by_cases x2 : 0 < d
    · have q : eurD c ++ ([44, 32, 112, 97, 105, 100] ++ 32 :: eurD d) = (eurD c ++ [44]) ++ 32 :: ([112, 97, 105, 100] ++ 32 :: eurD d) := by simp
      rw [if_neg x1, if_pos x2, if_neg x1, if_pos x2, q, splitB_word nc2, splitB_word (by decide), splitB_last nd]; rfl
    · rw [if_neg x1, if_neg x2, if_neg x1, if_neg x2, List.append_nil, splitB_last nc]; rfl
theorem blText_len {r : Bl} (h : isBl r = true) : (blText r).length ≤ 80 := by
  obtain ⟨a, b, c, d, rfl, h1, h2, h3, h4, h5, h6⟩ := blNat h
  have la := dec_len_le (k := 2) (n := a) (by omega)
  have lb := dec_len_le (k := 3) (n := b) (by omega)
  have lc := (eurD_len h5).2
  have ld := (eurD_len (c := d) (by omega)).2
  have lp : (paidD c d).length ≤ 18 := by
    unfold paidD
    split
    · simp
    · split
      · simp; omega
      · simp
  rw [blText_nat]
  simp only [List.length_append, List.length_cons, List.length_nil]
  omega
theorem eurN_rng (l : List UInt8) : 0 ≤ (eurN l).1 := by
  unfold eurN
  split
  · split
    · simp
    · simp
  · simp
theorem sParBl_A (l : List UInt8) (hl : l.length ≤ 1048577) (H : Heap) : AFunC Tryd.prog 26 [.string (bs l)] H (.tuple #[.agg #[.int .i64 (parBl l).1.1, .int .i64 (parBl l).1.2.1, .int .i64 (parBl l).1.2.2.1, .int .i64 (parBl l).1.2.2.2], .bool (parBl l).2]) H := by
  refine AFunC.of_body Tryd.func26 (by kernel_rfl) rfl (by kernel_rfl) (by simp [Tryd.ntmps26]) ?_
  have lf := wdE_length (splitB 32 l)
  simp -dsimp -implicitDefEqProofs (disch := omega) [go_sem, -List.getD_eq_getElem?_getD, ite_yes]
  refine ACall.of (l1Split_A l 32 hl _) ?_
  by_cases h80 : 80 < l.length
  · have h80i : (80 : Int) < (l.length : Int) := by omega
    simp -dsimp -implicitDefEqProofs (disch := omega) [go_sem, -List.getD_eq_getElem?_getD, ite_yes, h80, h80i]
    exact fin_flat rfl (by rw [parBl_no fun r hr e => by have := blText_len hr; rw [e] at this; omega])
  have h80i : ¬ (80 : Int) < (l.length : Int) := by omega
  simp -dsimp -implicitDefEqProofs (disch := omega) [go_sem, -List.getD_eq_getElem?_getD, ite_yes, h80, h80i]
  refine ACall.of (l1In_A _ _ _ _) ?_
  by_cases hn : 6 ≤ (splitB 32 l).length ∧ (splitB 32 l).length ≤ 8
  rotate_left
  · have hb : inB ((splitB 32 l).length : Int) 6 8 = false := by
      simp only [inB, Bool.and_eq_false_iff, decide_eq_false_iff_not]; omega
    simp -dsimp -implicitDefEqProofs (disch := omega) [go_sem, -List.getD_eq_getElem?_getD, ite_yes, hb]
    exact fin_flat rfl (by rw [parBl_no fun r hr e => by
      obtain ⟨a, b, c, d, _, _, _, _, _, _, hs⟩ := bl_split hr
      rw [e] at hs
      rw [hs] at hn
      by_cases x1 : d = c
      · rw [if_pos x1] at hn; simp at hn
      · by_cases x2 : 0 < d
        · rw [if_neg x1, if_pos x2] at hn; simp at hn
        · rw [if_neg x1, if_neg x2] at hn; simp at hn])
  have hb : inB ((splitB 32 l).length : Int) 6 8 = true := by
    simp only [inB, Bool.and_eq_true, decide_eq_true_eq]; omega
  have hn3 : (splitB 32 l).length = 6 ∨ (splitB 32 l).length = 7 ∨ (splitB 32 l).length = 8 := by omega
  rcases hn3 with hn3 | hn3 | hn3
  · obtain ⟨w0, w1, w2, w3, w4, w5, hw⟩ : ∃ w0 w1 w2 w3 w4 w5, splitB 32 l = [w0, w1, w2, w3, w4, w5] := by
      match hq : splitB 32 l, hn3 with
      | [x0, x1, x2, x3, x4, x5], _ => exact ⟨x0, x1, x2, x3, x4, x5, rfl⟩
    have key0 : ∀ r, isBl r = true → blText r = l → ∃ a b c d : Nat, r = ((a : Int), (b : Int), (c : Int), (d : Int)) ∧ a ≤ 999 ∧ b ≤ 3650 ∧ c ≤ 1000000000 ∧ d ≤ c ∧ w1 = decDigits a ∧ w4 = decDigits b ++ [58] ∧ w5 = eurD c ∧ d = 0 := fun r hr e => by
      obtain ⟨a, b, c, d, e1, e2, e3, e4, e5, e6, hs⟩ := bl_split hr
      rw [e, hw] at hs
      refine ⟨a, b, c, d, e1, e2, e3, e5, e6, ?_⟩
      by_cases x1 : d = c
      · rw [if_pos x1] at hs
        simp at hs
      · by_cases x2 : 0 < d
        · rw [if_neg x1, if_pos x2] at hs
          simp at hs
        · rw [if_neg x1, if_neg x2] at hs
          simp at hs; exact ⟨hs.2.1, hs.2.2.2.2.1, hs.2.2.2.2.2, by omega⟩
    have hs1 := splitB_size 32 l w1 (by rw [hw]; simp)
    have hs4 := splitB_size 32 l w4 (by rw [hw]; simp)
    have hs5 := splitB_size 32 l w5 (by rw [hw]; simp)
    rw [hw]
    have hb : inB 6 6 8 = true := by simp [inB]
    by_cases h4 : w4.length < 2
    · have h4i : (w4.length : Int) < 2 := by omega
      simp -dsimp -implicitDefEqProofs (disch := omega) [go_sem, -List.getD_eq_getElem?_getD, ite_yes, hb, h4, h4i, wdE]
      exact fin_flat rfl (by rw [parBl_no fun r hr e => by
        obtain ⟨a, b, c, d, _, _, _, _, _, _, q4, _⟩ := key0 r hr e
        rw [q4] at h4
        cases hq : decDigits b with
        | nil => exact dec_ne b hq
        | cons x y => rw [hq] at h4; simp only [List.length_append, List.length_cons, List.length_nil] at h4; omega])
    have h4i : ¬ (w4.length : Int) < 2 := by omega
    by_cases h5 : w5.length < 2
    · have h5i : (w5.length : Int) < 2 := by omega
      simp -dsimp -implicitDefEqProofs (disch := omega) [go_sem, -List.getD_eq_getElem?_getD, ite_yes, hb, h4, h4i, h5, h5i, wdE]
      exact fin_flat rfl (by rw [parBl_no fun r hr e => by
        obtain ⟨a, b, c, d, _, _, _, qc, _, _, _, q5, _⟩ := key0 r hr e
        rw [q5] at h5
        have := (eurD_len qc).1
        try simp only [List.length_append, List.length_cons, List.length_nil] at h5
        omega])
    have h5i : ¬ (w5.length : Int) < 2 := by omega
    simp -dsimp -implicitDefEqProofs (disch := omega) [go_sem, -List.getD_eq_getElem?_getD, ite_yes, hb, h4, h4i, h5, h5i, wdE]
    refine ACall.of (l1Read_A w1 (by omega) _) ?_
    generalize hr1 : readN w1 = n1
    obtain ⟨n1, o1⟩ := n1
    simp -dsimp -implicitDefEqProofs (disch := omega) [go_sem, -List.getD_eq_getElem?_getD, ite_yes, wdE]
    refine ADraw.quiet (by kernel_rfl) (by kernel_rfl) (by kernel_rfl) ?_
    simp -dsimp -implicitDefEqProofs (disch := omega) [go_sem, -List.getD_eq_getElem?_getD, ite_yes, wdE]
    refine ACallQ.of (l1Read_A (w4.take (w4.length - 1)) (by simp; omega) _) rfl ?_
    generalize hr4 : readN (w4.take (w4.length - 1)) = n4
    obtain ⟨n4, o4⟩ := n4
    simp -dsimp -implicitDefEqProofs (disch := omega) [go_sem, -List.getD_eq_getElem?_getD, ite_yes, wdE]
    refine ACall.of (l20Read_A (w5) (by omega) _) ?_
    have hc0 := eurN_rng (w5)
    generalize hr5 : eurN (w5) = n5 at hc0
    obtain ⟨cents, o5⟩ := n5
    simp only at hc0
    simp -dsimp -implicitDefEqProofs (disch := omega) [go_sem, -List.getD_eq_getElem?_getD, ite_yes, wdE]
    have key : ∀ r, isBl r = true → blText r = l → r = (n1, n4, cents, 0) ∧ o1 = true ∧ o4 = true ∧ o5 = true := fun r hr e => by
      obtain ⟨a, b, c, d, er, qa, qb, qc, qd, q1, q4, q5, q6⟩ := key0 r hr e
      have e4 : w4.take (w4.length - 1) = decDigits b := by rw [q4]; simp
      have e5 : w5 = eurD c := by rw [q5]
      rw [q1, readN_dec (by omega)] at hr1
      rw [e4, readN_dec (by omega)] at hr4
      rw [e5, eurN_eur qc] at hr5
      cases hr1; cases hr4; cases hr5
      exact ⟨by rw [er]; rw [q6]; rfl, rfl, rfl, rfl⟩
    cases o1
    · simp -dsimp -implicitDefEqProofs (disch := omega) [go_sem, -List.getD_eq_getElem?_getD, ite_yes, wdE]
      exact fin_flat rfl (by rw [parBl_no fun r hr e => by have := (key r hr e).2.1; cases this])
    cases o4
    · simp -dsimp -implicitDefEqProofs (disch := omega) [go_sem, -List.getD_eq_getElem?_getD, ite_yes, wdE]
      exact fin_flat rfl (by rw [parBl_no fun r hr e => by have := (key r hr e).2.2.1; cases this])
    cases o5
    · simp -dsimp -implicitDefEqProofs (disch := omega) [go_sem, -List.getD_eq_getElem?_getD, ite_yes, wdE]
      exact fin_flat rfl (by rw [parBl_no fun r hr e => by have := (key r hr e).2.2.2; cases this])
    simp -dsimp -implicitDefEqProofs (disch := omega) [go_sem, -List.getD_eq_getElem?_getD, ite_yes, wdE]
    refine ACall.of (l20One_A (n1, n4, cents, 0) _) ?_
    cases hr : isBl (n1, n4, cents, 0)
    · simp -dsimp -implicitDefEqProofs (disch := omega) [go_sem, -List.getD_eq_getElem?_getD, ite_yes]
      exact fin_flat rfl (by rw [parBl_no fun r hr' e => by rw [(key r hr' e).1, hr] at hr'; cases hr'])
    · simp -dsimp -implicitDefEqProofs (disch := omega) [go_sem, -List.getD_eq_getElem?_getD, ite_yes]
      refine ACall.of (l20Text_A (n1, n4, cents, 0) hr _) ?_
      by_cases ht : blText (n1, n4, cents, 0) = l
      · simp -dsimp -implicitDefEqProofs (disch := omega) [go_sem, -List.getD_eq_getElem?_getD, ite_yes, ht]
        exact fin_flat rfl (by rw [parBl_yes hr ht])
      · have htb := beq_false_of_ne ht
        simp -dsimp -implicitDefEqProofs (disch := omega) [go_sem, -List.getD_eq_getElem?_getD, ite_yes, ht, htb]
        exact fin_flat rfl (by rw [parBl_no fun r hr' e => by rw [(key r hr' e).1] at e; exact ht e])
  · obtain ⟨w0, w1, w2, w3, w4, w5, w6, hw⟩ : ∃ w0 w1 w2 w3 w4 w5 w6, splitB 32 l = [w0, w1, w2, w3, w4, w5, w6] := by
      match hq : splitB 32 l, hn3 with
      | [x0, x1, x2, x3, x4, x5, x6], _ => exact ⟨x0, x1, x2, x3, x4, x5, x6, rfl⟩
    have key0 : ∀ r, isBl r = true → blText r = l → ∃ a b c d : Nat, r = ((a : Int), (b : Int), (c : Int), (d : Int)) ∧ a ≤ 999 ∧ b ≤ 3650 ∧ c ≤ 1000000000 ∧ d ≤ c ∧ w1 = decDigits a ∧ w4 = decDigits b ++ [58] ∧ w5 = eurD c ++ [44] ∧ d = c := fun r hr e => by
      obtain ⟨a, b, c, d, e1, e2, e3, e4, e5, e6, hs⟩ := bl_split hr
      rw [e, hw] at hs
      refine ⟨a, b, c, d, e1, e2, e3, e5, e6, ?_⟩
      by_cases x1 : d = c
      · rw [if_pos x1] at hs
        simp at hs; exact ⟨hs.2.1, hs.2.2.2.2.1, hs.2.2.2.2.2.1, x1⟩
      · by_cases x2 : 0 < d
        · rw [if_neg x1, if_pos x2] at hs
          simp at hs
        · rw [if_neg x1, if_neg x2] at hs
          simp at hs
    have hs1 := splitB_size 32 l w1 (by rw [hw]; simp)
    have hs4 := splitB_size 32 l w4 (by rw [hw]; simp)
    have hs5 := splitB_size 32 l w5 (by rw [hw]; simp)
    rw [hw]
    have hb : inB 7 6 8 = true := by simp [inB]
    by_cases h4 : w4.length < 2
    · have h4i : (w4.length : Int) < 2 := by omega
      simp -dsimp -implicitDefEqProofs (disch := omega) [go_sem, -List.getD_eq_getElem?_getD, ite_yes, hb, h4, h4i, wdE]
      exact fin_flat rfl (by rw [parBl_no fun r hr e => by
        obtain ⟨a, b, c, d, _, _, _, _, _, _, q4, _⟩ := key0 r hr e
        rw [q4] at h4
        cases hq : decDigits b with
        | nil => exact dec_ne b hq
        | cons x y => rw [hq] at h4; simp only [List.length_append, List.length_cons, List.length_nil] at h4; omega])
    have h4i : ¬ (w4.length : Int) < 2 := by omega
    by_cases h5 : w5.length < 2
    · have h5i : (w5.length : Int) < 2 := by omega
      simp -dsimp -implicitDefEqProofs (disch := omega) [go_sem, -List.getD_eq_getElem?_getD, ite_yes, hb, h4, h4i, h5, h5i, wdE]
      exact fin_flat rfl (by rw [parBl_no fun r hr e => by
        obtain ⟨a, b, c, d, _, _, _, qc, _, _, _, q5, _⟩ := key0 r hr e
        rw [q5] at h5
        have := (eurD_len qc).1
        try simp only [List.length_append, List.length_cons, List.length_nil] at h5
        omega])
    have h5i : ¬ (w5.length : Int) < 2 := by omega
    simp -dsimp -implicitDefEqProofs (disch := omega) [go_sem, -List.getD_eq_getElem?_getD, ite_yes, hb, h4, h4i, h5, h5i, wdE]
    refine ACall.of (l1Read_A w1 (by omega) _) ?_
    generalize hr1 : readN w1 = n1
    obtain ⟨n1, o1⟩ := n1
    simp -dsimp -implicitDefEqProofs (disch := omega) [go_sem, -List.getD_eq_getElem?_getD, ite_yes, wdE]
    refine ADraw.quiet (by kernel_rfl) (by kernel_rfl) (by kernel_rfl) ?_
    simp -dsimp -implicitDefEqProofs (disch := omega) [go_sem, -List.getD_eq_getElem?_getD, ite_yes, wdE]
    refine ACallQ.of (l1Read_A (w4.take (w4.length - 1)) (by simp; omega) _) rfl ?_
    generalize hr4 : readN (w4.take (w4.length - 1)) = n4
    obtain ⟨n4, o4⟩ := n4
    simp -dsimp -implicitDefEqProofs (disch := omega) [go_sem, -List.getD_eq_getElem?_getD, ite_yes, wdE]
    refine ACall.of (l20Read_A (w5.take (w5.length - 1)) (by simp; omega) _) ?_
    have hc0 := eurN_rng (w5.take (w5.length - 1))
    generalize hr5 : eurN (w5.take (w5.length - 1)) = n5 at hc0
    obtain ⟨cents, o5⟩ := n5
    simp only at hc0
    simp -dsimp -implicitDefEqProofs (disch := omega) [go_sem, -List.getD_eq_getElem?_getD, ite_yes, wdE]
    have key : ∀ r, isBl r = true → blText r = l → r = (n1, n4, cents, cents) ∧ o1 = true ∧ o4 = true ∧ o5 = true := fun r hr e => by
      obtain ⟨a, b, c, d, er, qa, qb, qc, qd, q1, q4, q5, q6⟩ := key0 r hr e
      have e4 : w4.take (w4.length - 1) = decDigits b := by rw [q4]; simp
      have e5 : w5.take (w5.length - 1) = eurD c := by rw [q5]; simp
      rw [q1, readN_dec (by omega)] at hr1
      rw [e4, readN_dec (by omega)] at hr4
      rw [e5, eurN_eur qc] at hr5
      cases hr1; cases hr4; cases hr5
      exact ⟨by rw [er]; rw [q6], rfl, rfl, rfl⟩
    cases o1
    · simp -dsimp -implicitDefEqProofs (disch := omega) [go_sem, -List.getD_eq_getElem?_getD, ite_yes, wdE]
      exact fin_flat rfl (by rw [parBl_no fun r hr e => by have := (key r hr e).2.1; cases this])
    cases o4
    · simp -dsimp -implicitDefEqProofs (disch := omega) [go_sem, -List.getD_eq_getElem?_getD, ite_yes, wdE]
      exact fin_flat rfl (by rw [parBl_no fun r hr e => by have := (key r hr e).2.2.1; cases this])
    cases o5
    · simp -dsimp -implicitDefEqProofs (disch := omega) [go_sem, -List.getD_eq_getElem?_getD, ite_yes, wdE]
      exact fin_flat rfl (by rw [parBl_no fun r hr e => by have := (key r hr e).2.2.2; cases this])
    simp -dsimp -implicitDefEqProofs (disch := omega) [go_sem, -List.getD_eq_getElem?_getD, ite_yes, wdE]
    refine ACall.of (l20One_A (n1, n4, cents, cents) _) ?_
    cases hr : isBl (n1, n4, cents, cents)
    · simp -dsimp -implicitDefEqProofs (disch := omega) [go_sem, -List.getD_eq_getElem?_getD, ite_yes]
      exact fin_flat rfl (by rw [parBl_no fun r hr' e => by rw [(key r hr' e).1, hr] at hr'; cases hr'])
    · simp -dsimp -implicitDefEqProofs (disch := omega) [go_sem, -List.getD_eq_getElem?_getD, ite_yes]
      refine ACall.of (l20Text_A (n1, n4, cents, cents) hr _) ?_
      by_cases ht : blText (n1, n4, cents, cents) = l
      · simp -dsimp -implicitDefEqProofs (disch := omega) [go_sem, -List.getD_eq_getElem?_getD, ite_yes, ht]
        exact fin_flat rfl (by rw [parBl_yes hr ht])
      · have htb := beq_false_of_ne ht
        simp -dsimp -implicitDefEqProofs (disch := omega) [go_sem, -List.getD_eq_getElem?_getD, ite_yes, ht, htb]
        exact fin_flat rfl (by rw [parBl_no fun r hr' e => by rw [(key r hr' e).1] at e; exact ht e])
  · obtain ⟨w0, w1, w2, w3, w4, w5, w6, w7, hw⟩ : ∃ w0 w1 w2 w3 w4 w5 w6 w7, splitB 32 l = [w0, w1, w2, w3, w4, w5, w6, w7] := by
      match hq : splitB 32 l, hn3 with
      | [x0, x1, x2, x3, x4, x5, x6, x7], _ => exact ⟨x0, x1, x2, x3, x4, x5, x6, x7, rfl⟩
    have key0 : ∀ r, isBl r = true → blText r = l → ∃ a b c d : Nat, r = ((a : Int), (b : Int), (c : Int), (d : Int)) ∧ a ≤ 999 ∧ b ≤ 3650 ∧ c ≤ 1000000000 ∧ d ≤ c ∧ w1 = decDigits a ∧ w4 = decDigits b ++ [58] ∧ w5 = eurD c ++ [44] ∧ w7 = eurD d := fun r hr e => by
      obtain ⟨a, b, c, d, e1, e2, e3, e4, e5, e6, hs⟩ := bl_split hr
      rw [e, hw] at hs
      refine ⟨a, b, c, d, e1, e2, e3, e5, e6, ?_⟩
      by_cases x1 : d = c
      · rw [if_pos x1] at hs
        simp at hs
      · by_cases x2 : 0 < d
        · rw [if_neg x1, if_pos x2] at hs
          simp at hs; exact ⟨hs.2.1, hs.2.2.2.2.1, hs.2.2.2.2.2.1, hs.2.2.2.2.2.2.2⟩
        · rw [if_neg x1, if_neg x2] at hs
          simp at hs
    have hs1 := splitB_size 32 l w1 (by rw [hw]; simp)
    have hs4 := splitB_size 32 l w4 (by rw [hw]; simp)
    have hs5 := splitB_size 32 l w5 (by rw [hw]; simp)
    have hs7 := splitB_size 32 l w7 (by rw [hw]; simp)
    rw [hw]
    have hb : inB 8 6 8 = true := by simp [inB]
    by_cases h4 : w4.length < 2
    · have h4i : (w4.length : Int) < 2 := by omega
      simp -dsimp -implicitDefEqProofs (disch := omega) [go_sem, -List.getD_eq_getElem?_getD, ite_yes, hb, h4, h4i, wdE]
      exact fin_flat rfl (by rw [parBl_no fun r hr e => by
        obtain ⟨a, b, c, d, _, _, _, _, _, _, q4, _⟩ := key0 r hr e
        rw [q4] at h4
        cases hq : decDigits b with
        | nil => exact dec_ne b hq
        | cons x y => rw [hq] at h4; simp only [List.length_append, List.length_cons, List.length_nil] at h4; omega])
    have h4i : ¬ (w4.length : Int) < 2 := by omega
    by_cases h5 : w5.length < 2
    · have h5i : (w5.length : Int) < 2 := by omega
      simp -dsimp -implicitDefEqProofs (disch := omega) [go_sem, -List.getD_eq_getElem?_getD, ite_yes, hb, h4, h4i, h5, h5i, wdE]
      exact fin_flat rfl (by rw [parBl_no fun r hr e => by
        obtain ⟨a, b, c, d, _, _, _, qc, _, _, _, q5, _⟩ := key0 r hr e
        rw [q5] at h5
        have := (eurD_len qc).1
        try simp only [List.length_append, List.length_cons, List.length_nil] at h5
        omega])
    have h5i : ¬ (w5.length : Int) < 2 := by omega
    simp -dsimp -implicitDefEqProofs (disch := omega) [go_sem, -List.getD_eq_getElem?_getD, ite_yes, hb, h4, h4i, h5, h5i, wdE]
    refine ACall.of (l1Read_A w1 (by omega) _) ?_
    generalize hr1 : readN w1 = n1
    obtain ⟨n1, o1⟩ := n1
    simp -dsimp -implicitDefEqProofs (disch := omega) [go_sem, -List.getD_eq_getElem?_getD, ite_yes, wdE]
    refine ADraw.quiet (by kernel_rfl) (by kernel_rfl) (by kernel_rfl) ?_
    simp -dsimp -implicitDefEqProofs (disch := omega) [go_sem, -List.getD_eq_getElem?_getD, ite_yes, wdE]
    refine ACallQ.of (l1Read_A (w4.take (w4.length - 1)) (by simp; omega) _) rfl ?_
    generalize hr4 : readN (w4.take (w4.length - 1)) = n4
    obtain ⟨n4, o4⟩ := n4
    simp -dsimp -implicitDefEqProofs (disch := omega) [go_sem, -List.getD_eq_getElem?_getD, ite_yes, wdE]
    refine ACall.of (l20Read_A (w5.take (w5.length - 1)) (by simp; omega) _) ?_
    have hc0 := eurN_rng (w5.take (w5.length - 1))
    generalize hr5 : eurN (w5.take (w5.length - 1)) = n5 at hc0
    obtain ⟨cents, o5⟩ := n5
    simp only at hc0
    simp -dsimp -implicitDefEqProofs (disch := omega) [go_sem, -List.getD_eq_getElem?_getD, ite_yes, wdE]
    refine ACall.of (l20Read_A w7 (by omega) _) ?_
    generalize hr7 : eurN w7 = n7
    obtain ⟨p8, o7⟩ := n7
    have key : ∀ r, isBl r = true → blText r = l → r = (n1, n4, cents, p8) ∧ o1 = true ∧ o4 = true ∧ o5 = true := fun r hr e => by
      obtain ⟨a, b, c, d, er, qa, qb, qc, qd, q1, q4, q5, q6⟩ := key0 r hr e
      have e4 : w4.take (w4.length - 1) = decDigits b := by rw [q4]; simp
      have e5 : w5.take (w5.length - 1) = eurD c := by rw [q5]; simp
      rw [q1, readN_dec (by omega)] at hr1
      rw [e4, readN_dec (by omega)] at hr4
      rw [e5, eurN_eur qc] at hr5
      rw [q6, eurN_eur (by omega)] at hr7
      cases hr7
      cases hr1; cases hr4; cases hr5
      exact ⟨by rw [er], rfl, rfl, rfl⟩
    cases o1
    · simp -dsimp -implicitDefEqProofs (disch := omega) [go_sem, -List.getD_eq_getElem?_getD, ite_yes, wdE]
      exact fin_flat rfl (by rw [parBl_no fun r hr e => by have := (key r hr e).2.1; cases this])
    cases o4
    · simp -dsimp -implicitDefEqProofs (disch := omega) [go_sem, -List.getD_eq_getElem?_getD, ite_yes, wdE]
      exact fin_flat rfl (by rw [parBl_no fun r hr e => by have := (key r hr e).2.2.1; cases this])
    cases o5
    · simp -dsimp -implicitDefEqProofs (disch := omega) [go_sem, -List.getD_eq_getElem?_getD, ite_yes, wdE]
      exact fin_flat rfl (by rw [parBl_no fun r hr e => by have := (key r hr e).2.2.2; cases this])
    simp -dsimp -implicitDefEqProofs (disch := omega) [go_sem, -List.getD_eq_getElem?_getD, ite_yes, wdE]
    refine ACall.of (l20One_A (n1, n4, cents, p8) _) ?_
    cases hr : isBl (n1, n4, cents, p8)
    · simp -dsimp -implicitDefEqProofs (disch := omega) [go_sem, -List.getD_eq_getElem?_getD, ite_yes]
      exact fin_flat rfl (by rw [parBl_no fun r hr' e => by rw [(key r hr' e).1, hr] at hr'; cases hr'])
    · simp -dsimp -implicitDefEqProofs (disch := omega) [go_sem, -List.getD_eq_getElem?_getD, ite_yes]
      refine ACall.of (l20Text_A (n1, n4, cents, p8) hr _) ?_
      by_cases ht : blText (n1, n4, cents, p8) = l
      · simp -dsimp -implicitDefEqProofs (disch := omega) [go_sem, -List.getD_eq_getElem?_getD, ite_yes, ht]
        exact fin_flat rfl (by rw [parBl_yes hr ht])
      · have htb := beq_false_of_ne ht
        simp -dsimp -implicitDefEqProofs (disch := omega) [go_sem, -List.getD_eq_getElem?_getD, ite_yes, ht, htb]
        exact fin_flat rfl (by rw [parBl_no fun r hr' e => by rw [(key r hr' e).1] at e; exact ht e])
end Go.Proofs.YthnnbgggfpempaaDoor
