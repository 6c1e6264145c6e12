/- FnMeterTexts: the law. -/
import Derived.Test.YthnnbgggfpempaaDoorDrawTxM
import Derived.Test.YthnnbgggfpempaaDoorDrawMeters
import Derived.Test.YthnnbgggfpempaaDoorPaRd
import Derived.Test.YthnnbgggfpempaaDoorTxLawM
import Derived.Test.YthnnbgggfpempaaDoorLawRs
namespace Go.Proofs.YthnnbgggfpempaaDoor
open Go.Am Go.Lib
set_option linter.unusedVariables false
set_option linter.unusedSimpArgs false
set_option maxRecDepth 100000
set_option maxHeartbeats 4000000
theorem drawHighest_R {H : Heap} {tc n : Nat} (h : Bytes H tc n) (cc : Nat) : AFunR Tryd.prog 13 [.slice (some ⟨tc, 0, none⟩) n cc] H (PL H) := by
  refine AFunR.of_body Tryd.func13 (by kernel_rfl) rfl (by kernel_rfl) (by simp [Tryd.ntmps13]) ?_
  have ht := h.lt
  simp -dsimp -implicitDefEqProofs (disch := omega) [go_sem, -List.getD_eq_getElem?_getD, ite_yes]
  refine ACall.via (drawValid_R h cc) ?_
  rintro _ _ ⟨l, rfl, l1, rfl⟩
  simp -dsimp -implicitDefEqProofs (disch := omega) [go_sem, -List.getD_eq_getElem?_getD, ite_yes]
  refine EndR.of (.slice (some ⟨H.length, 0, none⟩) l.length l.length) _ ⟨l, rfl, l1, rfl⟩ (fin_list [some 0] rfl ?_ (by simp -dsimp -implicitDefEqProofs (disch := omega) [go_sem, -List.getD_eq_getElem?_getD, ite_yes]))
  simp -dsimp -implicitDefEqProofs (disch := omega) [go_sem, -List.getD_eq_getElem?_getD, ite_yes]
  exact .inl ⟨rfl, rdE_flat _⟩
theorem drawStopped_R {H : Heap} {tc n : Nat} (h : Bytes H tc n) (cc : Nat) : AFunR Tryd.prog 17 [.slice (some ⟨tc, 0, none⟩) n cc] H (PL H) := by
  refine AFunR.of_body Tryd.func17 (by kernel_rfl) rfl (by kernel_rfl) (by simp [Tryd.ntmps17]) ?_
  have ht := h.lt
  simp -dsimp -implicitDefEqProofs (disch := omega) [go_sem, -List.getD_eq_getElem?_getD, ite_yes]
  refine ACall.via (drawValid_R h cc) ?_
  rintro _ _ ⟨l, rfl, l1, rfl⟩
  simp -dsimp -implicitDefEqProofs (disch := omega) [go_sem, -List.getD_eq_getElem?_getD, ite_yes]
  refine EndR.of (.slice (some ⟨H.length, 0, none⟩) l.length l.length) _ ⟨l, rfl, l1, rfl⟩ (fin_list [some 0] rfl ?_ (by simp -dsimp -implicitDefEqProofs (disch := omega) [go_sem, -List.getD_eq_getElem?_getD, ite_yes]))
  simp -dsimp -implicitDefEqProofs (disch := omega) [go_sem, -List.getD_eq_getElem?_getD, ite_yes]
  exact .inl ⟨rfl, rdE_flat _⟩
theorem rd_day {l : List Rd} (hg : good l = true) {k : Nat} (hk : k < l.length) : List.take 1 (List.drop (k * 2) (l.flatMap rdE)) = [.int .i64 (dayN l k : Nat)] := by
  have h2 : List.take 1 (List.take 2 (List.drop (k * 2) (l.flatMap rdE))) = [.int .i64 (l.getD k (0, 0)).1] := by rw [flatMap_cells rdE 2 (fun _ => rfl) (0, 0) l k hk]; rfl
  rw [List.take_take] at h2
  rw [← dayN_eq hg hk]
  exact h2
theorem use_cell (l : List Rd) {k : Nat} (hk : k + 1 < l.length) : List.take 1 (List.drop k ((uses l).flatMap nmE)) = [.int .i64 (useN l k : Nat)] := by
  have ul : (uses l).length = l.length - 1 := by unfold uses; exact usesTo_length
  have := flatMap_cells nmE 1 (fun _ => rfl) 0 (uses l) k (by omega)
  rw [Nat.mul_one] at this
  rw [this, ← useN_eq]
  simp [nmE, uses, usesTo, List.getD, show k < l.length - 1 by omega]
theorem lawMeterTexts_A {H : Heap} {tc n : Nat} (h : Bytes H tc n) (cc : Nat) : AFunC Tryd.prog 3 [.slice (some ⟨tc, 0, none⟩) n cc] H (.bool true) H := by
  refine AFunC.of_awp Tryd.func3 (by kernel_rfl) rfl (by simp [Tryd.ntmps3]) ?_
  have ht := h.lt
  refine AWp.step 2 [(0, .slice (some ⟨tc, 0, none⟩) n cc)] H (by kernel_rfl) (by kernel_rfl) ?_ ?_
  · simp -dsimp -implicitDefEqProofs (disch := omega) [go_sem, -List.getD_eq_getElem?_getD, ite_yes]
    refine ACall.of (rBig_A _ _ _ _) ?_
    simp -dsimp -implicitDefEqProofs (disch := omega) [go_sem, -List.getD_eq_getElem?_getD, ite_yes]
    refine AIf.of (fun h' => ?_) (fun h' => ?_)
    · simp -dsimp -implicitDefEqProofs (disch := omega) [go_sem, -List.getD_eq_getElem?_getD, ite_yes]
      exact fin_flat0 rfl rfl
    · simp -dsimp -implicitDefEqProofs (disch := omega) [go_sem, -List.getD_eq_getElem?_getD, ite_yes]
      exact ⟨weakS_same (by simp -dsimp -implicitDefEqProofs (disch := omega) [go_sem, -List.getD_eq_getElem?_getD, ite_yes, ht])⟩
  simp only [AWp_drop, AWp_drop0]
  refine AWp.step 4 [(0, .slice (some ⟨tc, 0, none⟩) n cc)] H (by kernel_rfl) (by kernel_rfl) ?_ ?_
  · simp -dsimp -implicitDefEqProofs (disch := omega) [go_sem, -List.getD_eq_getElem?_getD, ite_yes]
    refine ACall.via (drawReadingText_R h cc) ?_
    rintro _ _ ⟨⟨x, y⟩, rfl, rfl⟩
    cases hr : isRd (x, y)
    · simp -dsimp -implicitDefEqProofs (disch := omega) [go_sem, -List.getD_eq_getElem?_getD, ite_yes]
      refine ACall.of (iReadingText_A (x, y) _) ?_
      rw [hr]
      simp -dsimp -implicitDefEqProofs (disch := omega) [go_sem, -List.getD_eq_getElem?_getD, ite_yes]
      refine ACall.of (sReadingText_A (x, y) _) ?_
      rw [hr]
      simp -dsimp -implicitDefEqProofs (disch := omega) [go_sem, -List.getD_eq_getElem?_getD, ite_yes]
      refine ACall.of (iParRd_A [] (by simp) _) ?_
      simp -dsimp -implicitDefEqProofs (disch := omega) [go_sem, -List.getD_eq_getElem?_getD, ite_yes]
      exact ⟨weakS_drop (by simp -dsimp -implicitDefEqProofs (disch := omega) [go_sem, -List.getD_eq_getElem?_getD, ite_yes, ht])⟩
    · have hp := parRd_yes hr rfl
      have hlen := rdText_len hr
      simp -dsimp -implicitDefEqProofs (disch := omega) [go_sem, -List.getD_eq_getElem?_getD, ite_yes]
      refine ACall.of (iReadingText_A (x, y) _) ?_
      rw [hr]
      simp -dsimp -implicitDefEqProofs (disch := omega) [go_sem, -List.getD_eq_getElem?_getD, ite_yes]
      refine ACall.of (sReadingText_A (x, y) _) ?_
      rw [hr]
      simp -dsimp -implicitDefEqProofs (disch := omega) [go_sem, -List.getD_eq_getElem?_getD, ite_yes]
      refine ACall.of (iParRd_A (rdText (x, y)) (by omega) _) ?_
      rw [hp]
      simp -dsimp -implicitDefEqProofs (disch := omega) [go_sem, -List.getD_eq_getElem?_getD, ite_yes]
      exact ⟨weakS_drop (by simp -dsimp -implicitDefEqProofs (disch := omega) [go_sem, -List.getD_eq_getElem?_getD, ite_yes, ht])⟩
  simp only [AWp_drop, AWp_drop0]
  refine AWp.step 3 [(0, .slice (some ⟨tc, 0, none⟩) n cc)] H (by kernel_rfl) (by kernel_rfl) ?_ ?_
  · simp -dsimp -implicitDefEqProofs (disch := omega) [go_sem, -List.getD_eq_getElem?_getD, ite_yes]
    refine ACall.via (drawParseReading_R h cc) ?_
    rintro _ _ ⟨l, rfl, l1, rfl⟩
    simp -dsimp -implicitDefEqProofs (disch := omega) [go_sem, -List.getD_eq_getElem?_getD, ite_yes]
    refine ACall.of (iParRd_A l (by omega) _) ?_
    simp -dsimp -implicitDefEqProofs (disch := omega) [go_sem, -List.getD_eq_getElem?_getD, ite_yes]
    refine ACall.of (sParRd_A l (by omega) _) ?_
    simp -dsimp -implicitDefEqProofs (disch := omega) [go_sem, -List.getD_eq_getElem?_getD, ite_yes]
    exact ⟨weakS_drop (by simp -dsimp -implicitDefEqProofs (disch := omega) [go_sem, -List.getD_eq_getElem?_getD, ite_yes, ht])⟩
  simp only [AWp_drop, AWp_drop0]
  refine AWp.step 4 [(0, .slice (some ⟨tc, 0, none⟩) n cc)] H (by kernel_rfl) (by kernel_rfl) ?_ ?_
  · simp -dsimp -implicitDefEqProofs (disch := omega) [go_sem, -List.getD_eq_getElem?_getD, ite_yes]
    refine ACall.via (drawHighest_R h cc) ?_
    rintro _ _ ⟨l, rfl, l1, rfl⟩
    have l2 : l.length ≤ 1048577 := by omega
    cases hg : highOk l
    · simp -dsimp -implicitDefEqProofs (disch := omega) [go_sem, -List.getD_eq_getElem?_getD, ite_yes]
      refine ACall.of (iHigh_bad l l2 hg _ _ _ (Sl.of rfl)) ?_
      simp -dsimp -implicitDefEqProofs (disch := omega) [go_sem, -List.getD_eq_getElem?_getD, ite_yes]
      refine ACall.of (sHigh_bad l l2 hg _ _ _ (Sl.of rfl)) ?_
      simp -dsimp -implicitDefEqProofs (disch := omega) [go_sem, -List.getD_eq_getElem?_getD, ite_yes]
      exact ⟨weakS_drop (by simp -dsimp -implicitDefEqProofs (disch := omega) [go_sem, -List.getD_eq_getElem?_getD, ite_yes, ht])⟩
    have A := HighAt.of hg
    have i1 := iHigh_good l l2 hg
    have s1 := sHigh_good l l2 hg
    have hg' := hg
    simp only [highOk, Bool.and_eq_true, decide_eq_true_eq] at hg'
    obtain ⟨g1, g2⟩ := hg'
    generalize bestN l (l.length - 1) = i at A i1 s1
    generalize (redN (useN l i) (ddN l i)).1 = num at A i1 s1
    generalize (redN (useN l i) (ddN l i)).2 = den at A i1 s1
    have hi := A.lt
    have hn := A.num_le
    have hd := A.den_le
    have hu := uses_len l2
    have ul : (uses l).length = l.length - 1 := by unfold uses; exact usesTo_length
    have ufl : ((uses l).flatMap nmE).length = l.length - 1 := by rw [nmE_length, ul]; omega
    have lf := rdE_length l
    have dd : ∀ k, k + 1 < l.length → (num : Int) * ((dayN l (k + 1) : Nat) - (dayN l k : Nat) : Int) = ((num * ddN l k : Nat) : Int) := fun k hk => by
      have := dayN_lt g1 hk
      rw [show ((dayN l (k + 1) : Nat) - (dayN l k : Nat) : Int) = ((ddN l k : Nat) : Int) by unfold ddN; omega, Int.natCast_mul]
    have db : ∀ k, k + 1 < l.length → num * ddN l k ≤ 99999 * 3650 := fun k hk => Nat.mul_le_mul hn (ddN_pos g1 hk).2
    have ub : ∀ k, useN l k * den ≤ 99999 * 3650 := fun k => Nat.mul_le_mul (useN_le l k) hd
    have rd := fun k (hk : k < l.length) => rd_day g1 hk
    have uc := fun k (hk : k + 1 < l.length) => use_cell l hk
    have dl := fun k (hk : k < l.length) => dayN_le g1 hk
    simp -dsimp -implicitDefEqProofs (disch := omega) [go_sem, -List.getD_eq_getElem?_getD, ite_yes]
    refine ACall.of (i1 _ _ _ (Sl.of rfl)) ?_
    simp -dsimp -implicitDefEqProofs (disch := omega) [go_sem, -List.getD_eq_getElem?_getD, ite_yes]
    refine ACall.of (s1 _ _ _ (Sl.of rfl)) ?_
    simp -dsimp -implicitDefEqProofs (disch := omega) [go_sem, -List.getD_eq_getElem?_getD, ite_yes]
    refine ACall.of (iUsesOf_good l l2 g1 _ _ _ (Sl.of rfl)) ?_
    have di := dd i hi
    have ei : (useN l i : Int) * (den : Int) = ((num * ddN l i : Nat) : Int) := by rw [A.eq, Int.natCast_mul]
    have bi := db i hi
    have q1 := dl i (by omega)
    have q2 := dl (i + 1) hi
    have r1 := rd i (by omega)
    have r2 := rd (i + 1) hi
    have u1 := uc i hi
    generalize num * ddN l i = P at di ei bi
    simp -dsimp -implicitDefEqProofs (disch := omega) [go_sem, -List.getD_eq_getElem?_getD, ite_yes]
    refine ADraw.quiet (by kernel_rfl) (by kernel_rfl) (by kernel_rfl) ?_
    simp -dsimp -implicitDefEqProofs (disch := omega) [go_sem, -List.getD_eq_getElem?_getD, ite_yes, ul, ufl, lf, r1, r2, u1, ei, di]
    refine ALoop.intro (ι := Nat) (fun k => k ≤ l.length - 1) (fun k => [(0, .slice (some ⟨tc, 0, none⟩) n cc), (15, .slice (some ⟨H.length, 0, none⟩) l.length l.length), (17, .int .i64 num), (18, .int .i64 den), (24, .slice (some ⟨H.length + 1, 0, none⟩) (uses l).length (uses l).length), (26, .int .i64 k)])
      (fun k => H ++ [some ⟨l.flatMap rdE, true, 25, 2⟩, some ⟨(uses l).flatMap nmE, true, 3, 1⟩]) (fun k => l.length - 1 - k) 0 (by omega) ?_ ?_
    · refine weakS_mk [some 0, some 1] rfl ?_ (by simp -dsimp -implicitDefEqProofs (disch := omega) [go_sem, -List.getD_eq_getElem?_getD, ite_yes, ht, ul])
      simp -dsimp -implicitDefEqProofs (disch := omega) [go_sem, -List.getD_eq_getElem?_getD, ite_yes]
      exact ⟨.inl ⟨rfl, rdE_flat _⟩, .inl ⟨rfl, nmE_flat _⟩⟩
    intro k hk
    by_cases hlt : k < l.length - 1
    · have hk1 : k + 1 < l.length := by omega
      have hlti : (k : Int) < ((l.length - 1 : Nat) : Int) := by omega
      have dk := dd k hk1
      have ek : (useN l k : Int) * (den : Int) = ((useN l k * den : Nat) : Int) := (Int.natCast_mul _ _).symm
      have lk := A.le k hk1
      have bk := db k hk1
      have ck := ub k
      have q3 := dl k (by omega)
      have q4 := dl (k + 1) hk1
      have r3 := rd k (by omega)
      have r4 := rd (k + 1) hk1
      have u3 := uc k hk1
      rw [ek, ← Int.natCast_mul] at lk
      generalize num * ddN l k = P at dk lk bk
      generalize useN l k * den = U at ek lk ck
      have hno : ¬ (P : Int) < (U : Int) := by omega
      simp -dsimp -implicitDefEqProofs (disch := omega) [go_sem, -List.getD_eq_getElem?_getD, ite_yes, ul, hlt, hlti]
      refine ADraw.quiet (by kernel_rfl) (by kernel_rfl) (by kernel_rfl) ?_
      simp -dsimp -implicitDefEqProofs (disch := omega) [go_sem, -List.getD_eq_getElem?_getD, ite_yes, ul, ufl, lf, hlt, hlti, hk1, r3, r4, u3, ek, dk, hno]
      refine LoopEnd.of (k + 1) (by omega) (by omega) (weakS_mk [some 0, some 1] rfl ?_ (by simp -dsimp -implicitDefEqProofs (disch := omega) [go_sem, -List.getD_eq_getElem?_getD, ite_yes, ht, ul]))
      simp -dsimp -implicitDefEqProofs (disch := omega) [go_sem, -List.getD_eq_getElem?_getD, ite_yes]
      exact ⟨.inl ⟨rfl, rdE_flat _⟩, .inl ⟨rfl, nmE_flat _⟩⟩
    · have hlti : ¬ (k : Int) < ((l.length - 1 : Nat) : Int) := by omega
      simp -dsimp -implicitDefEqProofs (disch := omega) [go_sem, -List.getD_eq_getElem?_getD, ite_yes, ul, hlt, hlti]
      exact ⟨weakS_drop (by simp -dsimp -implicitDefEqProofs (disch := omega) [go_sem, -List.getD_eq_getElem?_getD, ite_yes, ht])⟩
  simp only [AWp_drop, AWp_drop0]
  refine AWp.last (by kernel_rfl) ?_
  simp -dsimp -implicitDefEqProofs (disch := omega) [go_sem, -List.getD_eq_getElem?_getD, ite_yes]
  refine ACall.via (drawStopped_R h cc) ?_
  rintro _ _ ⟨l, rfl, l1, rfl⟩
  have l2 : l.length ≤ 1048577 := by omega
  have lf := rdE_length l
  simp -dsimp -implicitDefEqProofs (disch := omega) [go_sem, -List.getD_eq_getElem?_getD, ite_yes]
  refine ACall.of (iStopped_A l l2 _ _ _ (Sl.of rfl)) ?_
  simp -dsimp -implicitDefEqProofs (disch := omega) [go_sem, -List.getD_eq_getElem?_getD, ite_yes]
  refine ACall.of (sStopped_A l l2 _ _ _ (Sl.of rfl)) ?_
  cases hg : good l
  · simp -dsimp -implicitDefEqProofs (disch := omega) [go_sem, -List.getD_eq_getElem?_getD, ite_yes]
    exact fin_flat rfl rfl
  by_cases h1 : 1 < l.length
  · have h1i : (1 : Int) < (l.length : Int) := by omega
    have law := stop_law hg h1
    have rl := rd_day hg (k := l.length - 1) (by omega)
    have r0 := rd_day hg (k := 0) (by omega)
    rw [Nat.zero_mul, List.drop_zero] at r0
    rw [dayN_eq hg (show l.length - 1 < l.length by omega), dayN_eq hg (show 0 < l.length by omega)] at law
    have d1 := dayN_le hg (i := l.length - 1) (by omega)
    have d0 := dayN_le hg (i := 0) (by omega)
    simp -dsimp -implicitDefEqProofs (disch := omega) [go_sem, -List.getD_eq_getElem?_getD, ite_yes, h1, h1i]
    refine ACall.of (iTotal_A l l2 _ _ _ (Sl.of rfl)) ?_
    rw [hg]
    simp -dsimp -implicitDefEqProofs (disch := omega) [go_sem, -List.getD_eq_getElem?_getD, ite_yes, h1, h1i]
    refine ADraw.quiet (by kernel_rfl) (by kernel_rfl) (by kernel_rfl) ?_
    simp -dsimp -implicitDefEqProofs (disch := omega) [go_sem, -List.getD_eq_getElem?_getD, ite_yes, h1, h1i, lf, rl, r0]
    exact fin_flat rfl (by rw [law]; simp)
  · have h1i : ¬ (1 : Int) < (l.length : Int) := by omega
    simp -dsimp -implicitDefEqProofs (disch := omega) [go_sem, -List.getD_eq_getElem?_getD, ite_yes, h1, h1i]
    exact fin_flat rfl rfl
end Go.Proofs.YthnnbgggfpempaaDoor
