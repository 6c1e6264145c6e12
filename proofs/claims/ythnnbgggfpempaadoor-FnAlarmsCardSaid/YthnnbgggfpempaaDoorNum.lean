/- Numbers' texts in the reference. -/
import Derived.Test.YthnnbgggfpempaaDoorBytes
namespace Go.Proofs.YthnnbgggfpempaaDoor
open Go.Am Go.Lib
set_option linter.unusedVariables false
set_option linter.unusedSimpArgs false
set_option maxRecDepth 100000
theorem l1Num_nat : ∀ (m n : Nat), n < m → n ≤ 9223372036854775807 → ∀ H : Heap, AFunC Tryd.prog 115 [.int .i64 n] H (.string (bs (decDigits n))) H
  | 0, n, h, _, H => by omega
  | m + 1, n, hm, hn, H => by
    refine AFunC.of_body Tryd.func115 (by kernel_rfl) rfl (by kernel_rfl) (by simp [Tryd.ntmps115]) ?_
    have h0 : ¬ (n : Int) < 0 := by omega
    by_cases h10 : n < 10
    · have h10i : (n : Int) < 10 := by omega
      simp -dsimp -implicitDefEqProofs (disch := omega) [go_sem, -List.getD_eq_getElem?_getD, ite_yes, h0, h10, h10i]
      exact fin_flat0 rfl (by rw [dec_small h10])
    · have h10i : ¬ (n : Int) < 10 := by omega
      have ih := l1Num_nat m (n / 10) (by omega) (by omega) (roH H)
      rw [Int.natCast_ediv] at ih
      have hl := dec_len (n := n / 10) (by omega)
      simp -dsimp -implicitDefEqProofs (disch := omega) [go_sem, -List.getD_eq_getElem?_getD, ite_yes, h0, h10, h10i]
      refine ADraw.quiet (by kernel_rfl) (by kernel_rfl) (by kernel_rfl) ?_
      simp -dsimp -implicitDefEqProofs (disch := omega) [go_sem, -List.getD_eq_getElem?_getD, ite_yes, h0, h10, h10i]
      refine ACallQ.of ih rfl ?_
      simp -dsimp -implicitDefEqProofs (disch := omega) [go_sem, -List.getD_eq_getElem?_getD, ite_yes, h0, h10, h10i, hl]
      exact fin_flat0 rfl (by rw [dec_big h10, show ((n : Int) % 10).toNat = n % 10 by omega])
/-- the text of a number -/
theorem l1Num_A (n : Int) (h0 : -9223372036854775807 ≤ n) (h1 : n ≤ 9223372036854775807) (H : Heap) : AFunC Tryd.prog 115 [.int .i64 n] H (.string (bs (itoa n))) H := by
  by_cases hn : n < 0
  · refine AFunC.of_body Tryd.func115 (by kernel_rfl) rfl (by kernel_rfl) (by simp [Tryd.ntmps115]) ?_
    have ih := l1Num_nat (n.natAbs + 1) n.natAbs (by omega) (by omega) H
    rw [show ((n.natAbs : Nat) : Int) = -n by omega] at ih
    have hl := dec_len (n := n.natAbs) (by omega)
    simp -dsimp -implicitDefEqProofs (disch := omega) [go_sem, -List.getD_eq_getElem?_getD, ite_yes, hn]
    refine ACall.of ih ?_
    simp -dsimp -implicitDefEqProofs (disch := omega) [go_sem, -List.getD_eq_getElem?_getD, ite_yes, hn, hl]
    exact fin_flat0 rfl (by rw [itoa, if_pos hn])
  · have := l1Num_nat (n.toNat + 1) n.toNat (by omega) (by omega) H
    rw [show ((n.toNat : Nat) : Int) = n by omega] at this
    rw [itoa, if_neg hn]
    exact this
/-- at least so many digits of a number -/
def digN : Nat → Nat → List UInt8
  | 0, _ => []
  | k + 1, n => digN k (n / 10) ++ [dgt (n % 10)]
theorem digN_length : ∀ k n, (digN k n).length = k
  | 0, _ => rfl
  | k + 1, n => by rw [digN, List.length_append, digN_length k]; rfl
theorem digN_end : ∀ (k n i : Nat), digN (k + i) n = digN k (n / 10 ^ i) ++ digN i n
  | k, n, 0 => by simp [digN]
  | k, n, i + 1 => by
    rw [← Nat.add_assoc, digN, digN_end k (n / 10) i, digN, List.append_assoc, Nat.div_div_eq_div_mul, Nat.pow_succ', ]
def qd (n i : Nat) : Nat := n / 10 ^ i
theorem qd_next (n i : Nat) : qd n (i + 1) = qd n i / 10 := by rw [qd, qd, Nat.div_div_eq_div_mul, Nat.pow_succ]
theorem qd_le (n i : Nat) : qd n i ≤ n := Nat.div_le_self _ _
theorem qd_end {n k : Nat} (h : n < 10 ^ k) : qd n k = 0 := Nat.div_eq_of_lt h
theorem digN_next (n i : Nat) : digN (i + 1) n = dgt (qd n i % 10) :: digN i n := by
  rw [Nat.add_comm, digN_end 1 n i]; rfl
theorem dgt_int (q : Nat) : UInt8.ofNat (48 + (q : Int) % 10).toNat = dgt (q % 10) := by
  rw [show (48 + (q : Int) % 10).toNat = 48 + q % 10 by omega]; rfl
theorem l3Digits_A (n least : Nat) (hn : n < 10 ^ least) (hl : least ≤ 18) (hn2 : n ≤ 1000000000000) (H : Heap) : AFunC Tryd.prog 116 [.int .i64 n, .int .i64 least] H (.string (bs (digN least n))) H := by
  refine AFunC.of_body Tryd.func116 (by kernel_rfl) rfl (by kernel_rfl) (by simp [Tryd.ntmps116]) ?_
  simp -dsimp -implicitDefEqProofs (disch := omega) [go_sem, -List.getD_eq_getElem?_getD, ite_yes]
  refine ALoop.intro (ι := Nat) (fun i => i ≤ least) (fun i => [(0, .int .i64 (qd n i)), (1, .int .i64 least), (5, .string (bs (digN i n)))]) (fun _ => H) (fun i => least - i) 0 (by omega) ?_ ?_
  · exact weakS_same (by simp -dsimp -implicitDefEqProofs (disch := omega) [go_sem, -List.getD_eq_getElem?_getD, ite_yes, digN, show qd n 0 = n from by simp [qd]])
  · intro i hi
    have hlen := digN_length i n
    have hq1 := qd_le n i
    have hqn := qd_next n i
    have hqe := fun (h : i = least) => qd_end (n := n) (k := i) (by rw [h]; exact hn)
    have hdn := digN_next n i
    rw [← dgt_int] at hdn
    generalize qd n i = q at hq1 hqn hqe hdn
    by_cases hlt : i < least
    · have hlti : (i : Int) < (least : Int) := by omega
      by_cases hq0 : 0 < q
      · have hq0i : 0 < (q : Int) := by omega
        simp -dsimp -implicitDefEqProofs (disch := omega) [go_sem, -List.getD_eq_getElem?_getD, ite_yes, hq0, hq0i]
        exact LoopEnd.of (i + 1) (by omega) (by omega) (weakS_drop (by simp -dsimp -implicitDefEqProofs (disch := omega) [go_sem, -List.getD_eq_getElem?_getD, ite_yes, hqn, hdn]))
      · have hq0i : ¬ 0 < (q : Int) := by omega
        simp -dsimp -implicitDefEqProofs (disch := omega) [go_sem, -List.getD_eq_getElem?_getD, ite_yes, hq0, hq0i, hlt, hlti, hlen]
        exact LoopEnd.of (i + 1) (by omega) (by omega) (weakS_drop (by simp -dsimp -implicitDefEqProofs (disch := omega) [go_sem, -List.getD_eq_getElem?_getD, ite_yes, hqn, hdn]))
    · have hlti : ¬ (i : Int) < (least : Int) := by omega
      have e0 := hqe (by omega)
      subst e0
      obtain rfl : i = least := by omega
      simp -dsimp -implicitDefEqProofs (disch := omega) [go_sem, -List.getD_eq_getElem?_getD, ite_yes, hlt, hlti, hlen]
      exact fin_flat0 rfl rfl
end Go.Proofs.YthnnbgggfpempaaDoor
