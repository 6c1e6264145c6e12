/- Installments: both sides, and the law. -/
import Derived.Test.YtappbdfieccfeaaFacts
import Derived.Test.YtappbdfieccfeaaRecNm
import Derived.Test.YtappbdfieccfeaaDays
import Derived.Test.YtappbdfieccfeaaBills
namespace Go.Proofs.Ytappbdfieccfeaa
open Go.Am
set_option linter.unusedVariables false
set_option linter.unusedSimpArgs false
set_option maxRecDepth 100000

def instOk (cents n : Int) : Bool := inB cents 1 1000000000 && inB n 1 12 && decide (n ≤ cents)
def instAt (cents n : Int) (i : Nat) : Int := if (i : Int) < cents % n then cents / n + 1 else cents / n
def insts (cents n : Int) (k : Nat) : List Int := (List.range k).map (instAt cents n)
theorem insts_next (cents n : Int) (k : Nat) : insts cents n (k + 1) = insts cents n k ++ [instAt cents n k] := by simp [insts, List.range_succ]
theorem insts_length (cents n : Int) (k : Nat) : (insts cents n k).length = k := by simp [insts]
theorem iInst_bad (cents n : Int) (hg : instOk cents n = false) (H : Heap) : AFunC Try.prog 29 [.int .i64 cents, .int .i64 n] H (.tuple #[.slice none 0 0, .bool false]) H := by
  refine AFunC.of_body Try.func29 (by kernel_rfl) rfl (by kernel_rfl) (by simp [Try.ntmps29]) ?_
  simp -dsimp -implicitDefEqProofs (disch := omega) [go_sem, -List.getD_eq_getElem?_getD, ite_yes]
  refine ACall.of (inside_A _ _ _ _) ?_
  cases g1 : inB cents 1 1000000000
  · simp -dsimp -implicitDefEqProofs (disch := omega) [go_sem, -List.getD_eq_getElem?_getD, ite_yes]
    exact fin_flat0 rfl rfl
  simp -dsimp -implicitDefEqProofs (disch := omega) [go_sem, -List.getD_eq_getElem?_getD, ite_yes]
  refine ACall.of (inside_A _ _ _ _) ?_
  cases g2 : inB n 1 12
  · simp -dsimp -implicitDefEqProofs (disch := omega) [go_sem, -List.getD_eq_getElem?_getD, ite_yes]
    exact fin_flat0 rfl rfl
  have g3 : cents < n := by
    simp only [instOk, g1, g2, Bool.true_and] at hg
    have := of_decide_eq_false hg
    omega
  simp -dsimp -implicitDefEqProofs (disch := omega) [go_sem, -List.getD_eq_getElem?_getD, ite_yes, g3]
  exact fin_flat0 rfl rfl
theorem iInst_good (cents n : Int) (hg : instOk cents n = true) (H : Heap) : AFunC Try.prog 29 [.int .i64 cents, .int .i64 n] H (.tuple #[.slice (some ⟨H.length, 0, none⟩) (insts cents n n.toNat).length (insts cents n n.toNat).length, .bool true]) (H ++ [some ⟨(insts cents n n.toNat).flatMap nmE, true, 3, 1⟩]) := by
  refine AFunC.of_body Try.func29 (by kernel_rfl) rfl (by kernel_rfl) (by simp [Try.ntmps29]) ?_
  simp only [instOk, Bool.and_eq_true, decide_eq_true_eq] at hg
  obtain ⟨⟨g1, g2⟩, g3⟩ := hg
  have g1' := g1
  have g2' := g2
  simp only [inB, Bool.and_eq_true, decide_eq_true_eq] at g1' g2'
  have g4 : ¬ cents < n := by omega
  have g5 : ¬ n = 0 := by omega
  have q1 := Int.ediv_le_self n (show 0 ≤ cents by omega)
  have q2 := Int.ediv_nonneg (show 0 ≤ cents by omega) (show 0 ≤ n by omega)
  have q3 := Int.emod_nonneg cents g5
  have q4 := Int.emod_lt_of_pos cents (show 0 < n by omega)
  have il := insts_length cents n n.toNat
  rw [il]
  simp -dsimp -implicitDefEqProofs (disch := omega) [go_sem, -List.getD_eq_getElem?_getD, ite_yes]
  refine ACall.of (inside_A _ _ _ _) ?_
  simp -dsimp -implicitDefEqProofs (disch := omega) [go_sem, -List.getD_eq_getElem?_getD, ite_yes, g1]
  refine ACall.of (inside_A _ _ _ _) ?_
  simp -dsimp -implicitDefEqProofs (disch := omega) [go_sem, -List.getD_eq_getElem?_getD, ite_yes, g2, g4]
  refine ALoop.intro (ι := Nat) (fun k => k ≤ n.toNat) (fun k => [(0, .int .i64 cents), (1, .int .i64 n), (6, .slice (some ⟨H.length, 0, none⟩) k k), (23, .int .i64 n), (24, .int .i64 k)]) (fun k => H ++ [some ⟨(insts cents n k).flatMap nmE, true, 3, 1⟩]) (fun k => n.toNat - k) 0 (by omega) ?_ ?_
  · refine weakS_mk [some 0] rfl ?_ (by simp -dsimp -implicitDefEqProofs (disch := omega) [go_sem, -List.getD_eq_getElem?_getD, ite_yes])
    simp -dsimp -implicitDefEqProofs (disch := omega) [go_sem, -List.getD_eq_getElem?_getD, ite_yes]
    exact .inl ⟨rfl, rfl⟩
  · intro k hk
    have hfl : ((insts cents n k).flatMap nmE).length = k := by rw [nmE_length, insts_length]; omega
    by_cases hlt : k < n.toNat
    · have hlt' : (k : Int) < n := by omega
      have e := insts_next cents n k
      simp -dsimp -implicitDefEqProofs (disch := omega) [go_sem, -List.getD_eq_getElem?_getD, ite_yes, hlt', g5]
      refine AIf.of (fun h => ?_) (fun h => ?_)
      · simp only [decide_eq_true_eq] at h
        have e2 : instAt cents n k = cents / n + 1 := by unfold instAt; rw [if_pos h]
        simp -dsimp -implicitDefEqProofs (disch := omega) [go_sem, -List.getD_eq_getElem?_getD, ite_yes, hfl]
        refine ⟨by omega, LoopEnd.of (k + 1) (by omega) (by omega) (weakS_mk [some 2] rfl ?_ (by simp -dsimp -implicitDefEqProofs (disch := omega) [go_sem, -List.getD_eq_getElem?_getD, ite_yes]))⟩
        simp -dsimp -implicitDefEqProofs (disch := omega) [go_sem, -List.getD_eq_getElem?_getD, ite_yes, e, e2]
        exact .inl ⟨by simp [nmE], by simp [nmE, flat]⟩
      · simp only [decide_eq_false_iff_not] at h
        have e2 : instAt cents n k = cents / n := by unfold instAt; rw [if_neg h]
        simp -dsimp -implicitDefEqProofs (disch := omega) [go_sem, -List.getD_eq_getElem?_getD, ite_yes, hfl]
        refine ⟨by omega, LoopEnd.of (k + 1) (by omega) (by omega) (weakS_mk [some 2] rfl ?_ (by simp -dsimp -implicitDefEqProofs (disch := omega) [go_sem, -List.getD_eq_getElem?_getD, ite_yes]))⟩
        simp -dsimp -implicitDefEqProofs (disch := omega) [go_sem, -List.getD_eq_getElem?_getD, ite_yes, e, e2]
        exact .inl ⟨by simp [nmE], by simp [nmE, flat]⟩
    · have hlt' : ¬ (k : Int) < n := by omega
      have hk' : k = n.toNat := by omega
      simp -dsimp -implicitDefEqProofs (disch := omega) [go_sem, -List.getD_eq_getElem?_getD, ite_yes, hlt']
      rw [← hk']
      refine fin_list [some 0] rfl ?_ (by simp -dsimp -implicitDefEqProofs (disch := omega) [go_sem, -List.getD_eq_getElem?_getD, ite_yes])
      simp -dsimp -implicitDefEqProofs (disch := omega) [go_sem, -List.getD_eq_getElem?_getD, ite_yes]
      exact .inl ⟨rfl, nmE_flat _⟩
theorem insts_le {cents n : Int} (h : instOk cents n = true) : (insts cents n n.toNat).length ≤ 1048577 := by
  rw [insts_length]
  simp only [instOk, inB, Bool.and_eq_true, decide_eq_true_eq] at h
  omega
theorem sInst_bad (cents n : Int) (hg : instOk cents n = false) (H : Heap) : AFunC Try.prog 30 [.int .i64 cents, .int .i64 n] H (.tuple #[.slice (some ⟨H.length, 0, none⟩) 0 0, .bool false]) (H ++ [some ⟨[], true, 3, 1⟩]) := by
  refine AFunC.of_body Try.func30 (by kernel_rfl) rfl (by kernel_rfl) (by simp [Try.ntmps30]) ?_
  simp -dsimp -implicitDefEqProofs (disch := omega) [go_sem, -List.getD_eq_getElem?_getD, ite_yes]
  refine ACall.of (l20Cents_A _ _) ?_
  cases g1 : inB cents 1 1000000000
  · simp -dsimp -implicitDefEqProofs (disch := omega) [go_sem, -List.getD_eq_getElem?_getD, ite_yes]
    refine fin_list [some 0] rfl ?_ (by simp -dsimp -implicitDefEqProofs (disch := omega) [go_sem, -List.getD_eq_getElem?_getD, ite_yes])
    simp -dsimp -implicitDefEqProofs (disch := omega) [go_sem, -List.getD_eq_getElem?_getD, ite_yes]
    exact .inl ⟨rfl, rfl⟩
  simp -dsimp -implicitDefEqProofs (disch := omega) [go_sem, -List.getD_eq_getElem?_getD, ite_yes]
  refine ACall.of (l1In_A _ _ _ _) ?_
  cases g2 : inB n 1 12
  · simp -dsimp -implicitDefEqProofs (disch := omega) [go_sem, -List.getD_eq_getElem?_getD, ite_yes]
    refine fin_list [some 0] rfl ?_ (by simp -dsimp -implicitDefEqProofs (disch := omega) [go_sem, -List.getD_eq_getElem?_getD, ite_yes])
    simp -dsimp -implicitDefEqProofs (disch := omega) [go_sem, -List.getD_eq_getElem?_getD, ite_yes]
    exact .inl ⟨rfl, rfl⟩
  have g3 : cents < n := by
    simp only [instOk, g1, g2, Bool.true_and] at hg
    have := of_decide_eq_false hg
    omega
  simp -dsimp -implicitDefEqProofs (disch := omega) [go_sem, -List.getD_eq_getElem?_getD, ite_yes, g3]
  refine fin_list [some 0] rfl ?_ (by simp -dsimp -implicitDefEqProofs (disch := omega) [go_sem, -List.getD_eq_getElem?_getD, ite_yes])
  simp -dsimp -implicitDefEqProofs (disch := omega) [go_sem, -List.getD_eq_getElem?_getD, ite_yes]
  exact .inl ⟨rfl, rfl⟩
theorem sInst_good (cents n : Int) (hg : instOk cents n = true) (H : Heap) : AFunC Try.prog 30 [.int .i64 cents, .int .i64 n] H (.tuple #[.slice (some ⟨H.length, 0, none⟩) (insts cents n n.toNat).length (insts cents n n.toNat).length, .bool true]) (H ++ [some ⟨(insts cents n n.toNat).flatMap nmE, true, 3, 1⟩]) := by
  refine AFunC.of_body Try.func30 (by kernel_rfl) rfl (by kernel_rfl) (by simp [Try.ntmps30]) ?_
  simp only [instOk, Bool.and_eq_true, decide_eq_true_eq] at hg
  obtain ⟨⟨g1, g2⟩, g3⟩ := hg
  have g1' := g1
  have g2' := g2
  simp only [inB, Bool.and_eq_true, decide_eq_true_eq] at g1' g2'
  have g4 : ¬ cents < n := by omega
  have g5 : ¬ n = 0 := by omega
  have q1 := Int.ediv_le_self n (show 0 ≤ cents by omega)
  have q2 := Int.ediv_nonneg (show 0 ≤ cents by omega) (show 0 ≤ n by omega)
  have q3 := Int.emod_nonneg cents g5
  have q4 := Int.emod_lt_of_pos cents (show 0 < n by omega)
  have il := insts_length cents n n.toNat
  rw [il]
  simp -dsimp -implicitDefEqProofs (disch := omega) [go_sem, -List.getD_eq_getElem?_getD, ite_yes]
  refine ACall.of (l20Cents_A _ _) ?_
  simp -dsimp -implicitDefEqProofs (disch := omega) [go_sem, -List.getD_eq_getElem?_getD, ite_yes, g1]
  refine ACall.of (l1In_A _ _ _ _) ?_
  simp -dsimp -implicitDefEqProofs (disch := omega) [go_sem, -List.getD_eq_getElem?_getD, ite_yes, g2, g4]
  refine ALoop.intro (ι := Nat) (fun k => k ≤ n.toNat) (fun k => [(0, .int .i64 cents), (1, .int .i64 n), (6, .slice (some ⟨H.length, 0, none⟩) k k), (7, .int .i64 k)]) (fun k => H ++ [some ⟨(insts cents n k).flatMap nmE, true, 3, 1⟩]) (fun k => n.toNat - k) 0 (by omega) ?_ ?_
  · refine weakS_mk [some 0] rfl ?_ (by simp -dsimp -implicitDefEqProofs (disch := omega) [go_sem, -List.getD_eq_getElem?_getD, ite_yes])
    simp -dsimp -implicitDefEqProofs (disch := omega) [go_sem, -List.getD_eq_getElem?_getD, ite_yes]
    exact .inl ⟨rfl, rfl⟩
  · intro k hk
    have hfl : ((insts cents n k).flatMap nmE).length = k := by rw [nmE_length, insts_length]; omega
    by_cases hlt : k < n.toNat
    · have hlt' : (k : Int) < n := by omega
      have e := insts_next cents n k
      simp -dsimp -implicitDefEqProofs (disch := omega) [go_sem, -List.getD_eq_getElem?_getD, ite_yes, hlt', g5]
      refine AIf.of (fun h => ?_) (fun h => ?_)
      · simp only [decide_eq_true_eq] at h
        have e2 : instAt cents n k = cents / n + 1 := by unfold instAt; rw [if_pos h]
        simp -dsimp -implicitDefEqProofs (disch := omega) [go_sem, -List.getD_eq_getElem?_getD, ite_yes, hfl]
        refine ⟨by omega, LoopEnd.of (k + 1) (by omega) (by omega) (weakS_mk [some 2] rfl ?_ (by simp -dsimp -implicitDefEqProofs (disch := omega) [go_sem, -List.getD_eq_getElem?_getD, ite_yes]))⟩
        simp -dsimp -implicitDefEqProofs (disch := omega) [go_sem, -List.getD_eq_getElem?_getD, ite_yes, e, e2]
        exact .inl ⟨by simp [nmE], by simp [nmE, flat]⟩
      · simp only [decide_eq_false_iff_not] at h
        have e2 : instAt cents n k = cents / n := by unfold instAt; rw [if_neg h]
        simp -dsimp -implicitDefEqProofs (disch := omega) [go_sem, -List.getD_eq_getElem?_getD, ite_yes, hfl]
        refine ⟨by omega, LoopEnd.of (k + 1) (by omega) (by omega) (weakS_mk [some 2] rfl ?_ (by simp -dsimp -implicitDefEqProofs (disch := omega) [go_sem, -List.getD_eq_getElem?_getD, ite_yes]))⟩
        simp -dsimp -implicitDefEqProofs (disch := omega) [go_sem, -List.getD_eq_getElem?_getD, ite_yes, e, e2]
        exact .inl ⟨by simp [nmE], by simp [nmE, flat]⟩
    · have hlt' : ¬ (k : Int) < n := by omega
      have hk' : k = n.toNat := by omega
      simp -dsimp -implicitDefEqProofs (disch := omega) [go_sem, -List.getD_eq_getElem?_getD, ite_yes, hlt']
      rw [← hk']
      refine fin_list [some 0] rfl ?_ (by simp -dsimp -implicitDefEqProofs (disch := omega) [go_sem, -List.getD_eq_getElem?_getD, ite_yes])
      simp -dsimp -implicitDefEqProofs (disch := omega) [go_sem, -List.getD_eq_getElem?_getD, ite_yes]
      exact .inl ⟨rfl, nmE_flat _⟩
end Go.Proofs.Ytappbdfieccfeaa
