/- Fractions: greatest common divisors, lowest terms, sums, comparisons. -/
import Derived.Test.YtncblopbcnkinaaFacts
import Derived.Test.YtncblopbcnkinaaAm11
import Derived.Test.YtncblopbcnkinaaAm13
namespace Go.Proofs.Ytncblopbcnkinaa
open Go.Am
set_option linter.unusedVariables false
set_option linter.unusedSimpArgs false
set_option maxRecDepth 100000

theorem gcd_step {a b : Nat} : Nat.gcd b (a % b) = Nat.gcd a b := by rw [Nat.gcd_comm b, ← Nat.gcd_rec b a, Nat.gcd_comm]
theorem gcd_le {a b : Nat} (hb : 0 < b) : Nat.gcd a b ≤ b := Nat.gcd_le_right a hb
theorem gcd_pos {a b : Nat} (hb : 0 < b) : 0 < Nat.gcd a b := Nat.gcd_pos_of_pos_right a hb
theorem wrapN {n m : Nat} (h1 : n ≤ m) (h2 : m ≤ 4000000000000000000) : IntKind.i64.wrap (n : Int) = n := wrap_ok (by omega) (by omega)
theorem modC (a b : Nat) : (a : Int) % (b : Int) = ((a % b : Nat) : Int) := (Int.natCast_emod a b).symm
theorem divC (a b : Nat) : (a : Int) / (b : Int) = ((a / b : Nat) : Int) := (Int.natCast_ediv a b).symm
theorem absOf_A (a : Nat) (ha : a ≤ 4000000000000000000) (H : Heap) : AFunC Try.prog 117 [.int .i64 a] H (.int .i64 a) H := by
  refine AFunC.of_body Try.func117 (by kernel_rfl) rfl (by kernel_rfl) (by simp [Try.ntmps117]) ?_
  simp -dsimp -implicitDefEqProofs (disch := omega) [go_sem, -List.getD_eq_getElem?_getD, ite_yes]
  refine fin_flat0 rfl ?_
  first | rfl | (congr 1; omega)
theorem gcdOf_A (a b : Nat) (ha : a ≤ 4000000000000000000) (hb : b ≤ 4000000000000000000) (H : Heap) : AFunC Try.prog 88 [.int .i64 a, .int .i64 b] H (.int .i64 (Nat.gcd a b : Nat)) H := by
  refine AFunC.of_body Try.func88 (by kernel_rfl) rfl (by kernel_rfl) (by simp [Try.ntmps88]) ?_
  simp -dsimp -implicitDefEqProofs (disch := omega) [go_sem, -List.getD_eq_getElem?_getD, ite_yes]
  refine ACall.of (absOf_A a ha _) ?_
  simp -dsimp -implicitDefEqProofs (disch := omega) [go_sem, -List.getD_eq_getElem?_getD, ite_yes]
  refine ACall.of (absOf_A b hb _) ?_
  simp -dsimp -implicitDefEqProofs (disch := omega) [go_sem, -List.getD_eq_getElem?_getD, ite_yes]
  refine ALoop.intro (ι := Nat × Nat) (fun p => p.1 ≤ 4000000000000000000 ∧ p.2 ≤ 4000000000000000000 ∧ Nat.gcd p.1 p.2 = Nat.gcd a b) (fun p => [(0, .int .i64 p.1), (1, .int .i64 p.2)]) (fun _ => H) (fun p => p.2) (a, b) ⟨ha, hb, rfl⟩ ?_ ?_
  · exact weakS_same (by simp -dsimp -implicitDefEqProofs (disch := omega) [go_sem, -List.getD_eq_getElem?_getD, ite_yes])
  · rintro ⟨x, y⟩ ⟨hx, hy, hg⟩
    simp only at hx hy hg
    by_cases h0 : y = 0
    · subst h0
      simp -dsimp -implicitDefEqProofs (disch := omega) [go_sem, -List.getD_eq_getElem?_getD, ite_yes]
      rw [Nat.gcd_zero_right] at hg
      exact fin_flat0 rfl (by rw [hg])
    · have h1 : (y : Int) ≠ 0 := by omega
      simp -dsimp -implicitDefEqProofs (disch := omega) [go_sem, -List.getD_eq_getElem?_getD, ite_yes, h0, h1]
      refine ADraw.quiet (by kernel_rfl) (by kernel_rfl) (by kernel_rfl) ?_
      simp -dsimp -implicitDefEqProofs (disch := omega) [go_sem, -List.getD_eq_getElem?_getD, ite_yes, h0, h1]
      have hlt := Nat.mod_lt x (by omega : 0 < y)
      refine LoopEnd.of (y, x % y) ⟨hy, by omega, by rw [gcd_step]; exact hg⟩ hlt (weakS_same (by simp -dsimp -implicitDefEqProofs (disch := omega) [go_sem, -List.getD_eq_getElem?_getD, ite_yes]))
theorem lowestTerms_A (a b : Nat) (ha : a ≤ 4000000000000000000) (hb : b ≤ 4000000000000000000) (h0 : 0 < b) (H : Heap) : AFunC Try.prog 59 [.int .i64 a, .int .i64 b] H (.tuple #[.int .i64 (a / Nat.gcd a b : Nat), .int .i64 (b / Nat.gcd a b : Nat)]) H := by
  refine AFunC.of_body Try.func59 (by kernel_rfl) rfl (by kernel_rfl) (by simp [Try.ntmps59]) ?_
  have g0 := gcd_pos (a := a) h0
  have g1 : ((Nat.gcd a b : Nat) : Int) ≠ 0 := by omega
  have q1 := Nat.div_le_self a (Nat.gcd a b)
  have q2 := Nat.div_le_self b (Nat.gcd a b)
  simp -dsimp -implicitDefEqProofs (disch := omega) [go_sem, -List.getD_eq_getElem?_getD, ite_yes]
  refine ACall.of (gcdOf_A a b ha hb _) ?_
  generalize Nat.gcd a b = g at *
  simp -dsimp -implicitDefEqProofs (disch := omega) [go_sem, -List.getD_eq_getElem?_getD, ite_yes]
  refine ADraw.quiet (by kernel_rfl) (by kernel_rfl) (by kernel_rfl) ?_
  have g2 : g ≠ 0 := by omega
  have w1 := wrapN q1 ha
  have w2 := wrapN q2 hb
  simp -dsimp -implicitDefEqProofs (disch := omega) [go_sem, -List.getD_eq_getElem?_getD, ite_yes, g1, g2, w1, w2, divC, -Int.natCast_ediv, -Int.natCast_mul, -Int.natCast_add, -Int.natCast_emod]
  exact fin_flat0 rfl rfl
/-! ### lowest terms -/
def redN (a b : Nat) : Nat × Nat := (a / Nat.gcd a b, b / Nat.gcd a b)
def plusN (p q : Nat × Nat) : Nat × Nat := redN (p.1 * q.2 + q.1 * p.2) (p.2 * q.2)
theorem redN_scale {g a b : Nat} (hg : 0 < g) : redN (g * a) (g * b) = redN a b := by
  unfold redN
  rw [Nat.gcd_mul_left, Nat.mul_div_mul_left _ _ hg, Nat.mul_div_mul_left _ _ hg]
theorem redN_one (a : Nat) : redN a 1 = (a, 1) := by simp [redN]
theorem redN_whole (u : Nat) {d : Nat} (hd : 0 < d) : redN (u * d) d = (u, 1) := by
  have := redN_scale (g := d) (a := u) (b := 1) hd
  rw [Nat.mul_one, Nat.mul_comm d u, redN_one] at this
  exact this
theorem redN_zero {d : Nat} (hd : 0 < d) : redN 0 d = (0, 1) := by
  have := redN_whole 0 hd
  rwa [Nat.zero_mul] at this
theorem redN_eq (a : Nat) {b : Nat} (hb : 0 < b) : ∃ g, 0 < g ∧ a = g * (redN a b).1 ∧ b = g * (redN a b).2 := by
  refine ⟨Nat.gcd a b, gcd_pos hb, ?_, ?_⟩
  · exact (Nat.mul_div_cancel' (Nat.gcd_dvd_left a b)).symm
  · exact (Nat.mul_div_cancel' (Nat.gcd_dvd_right a b)).symm
theorem redN_pos {a b : Nat} (hb : 0 < b) : 0 < (redN a b).2 := by
  obtain ⟨g, h1, _, h3⟩ := redN_eq a hb
  rcases Nat.eq_zero_or_pos (redN a b).2 with h | h
  · rw [h] at h3; omega
  · exact h
theorem redN_le (a b : Nat) : (redN a b).1 ≤ a ∧ (redN a b).2 ≤ b := ⟨Nat.div_le_self _ _, Nat.div_le_self _ _⟩
theorem redN_redN (a : Nat) {b : Nat} (hb : 0 < b) : redN (redN a b).1 (redN a b).2 = redN a b := by
  obtain ⟨g, h1, h2, h3⟩ := redN_eq a hb
  have := redN_scale (a := (redN a b).1) (b := (redN a b).2) h1
  rw [← h2, ← h3] at this
  exact this.symm
theorem plusN_zero {a b : Nat} (hb : 0 < b) : plusN (redN a b) (0, 1) = redN a b := by
  unfold plusN
  simp only [Nat.mul_one, Nat.zero_mul, Nat.add_zero]
  exact redN_redN a hb
theorem plusN_whole (s u : Nat) : plusN (s, 1) (u, 1) = (s + u, 1) := by simp [plusN, redN_one]
theorem plusN_part (s x : Nat) {d : Nat} (hd : 0 < d) : plusN (s, 1) (redN x d) = redN (s * d + x) d := by
  obtain ⟨g, h1, h2, h3⟩ := redN_eq x hd
  have h := redN_scale (a := s * (redN x d).2 + (redN x d).1) (b := (redN x d).2) h1
  have e : g * (s * (redN x d).2 + (redN x d).1) = s * d + x := by
    conv => rhs; rw [h2]
    conv => rhs; lhs; rw [h3]
    rw [Nat.mul_add, Nat.mul_left_comm]
  rw [e, ← h3] at h
  unfold plusN
  simp only [Nat.mul_one, Nat.one_mul]
  exact h.symm
def cmpI (x y : Int) : Int := if x < y then -1 else if y < x then 1 else 0
theorem isNaN_A (n : Int) (H : Heap) : AFunC Try.prog 86 [.int .i64 n] H (.bool false) H := by
  refine AFunC.of_body Try.func86 (by kernel_rfl) rfl (by kernel_rfl) (by simp [Try.ntmps86]) ?_
  simp -dsimp -implicitDefEqProofs (disch := omega) [go_sem, -List.getD_eq_getElem?_getD, ite_yes]
  exact fin_flat0 rfl (by simp)
theorem compare_A (x y : Int) (H : Heap) : AFunC Try.prog 53 [.int .i64 x, .int .i64 y] H (.int .i64 (cmpI x y)) H := by
  refine AFunC.of_body Try.func53 (by kernel_rfl) rfl (by kernel_rfl) (by simp [Try.ntmps53]) ?_
  simp -dsimp -implicitDefEqProofs (disch := omega) [go_sem, -List.getD_eq_getElem?_getD, ite_yes]
  refine ACall.of (isNaN_A _ _) ?_
  simp -dsimp -implicitDefEqProofs (disch := omega) [go_sem, -List.getD_eq_getElem?_getD, ite_yes]
  refine ACall.of (isNaN_A _ _) ?_
  simp -dsimp -implicitDefEqProofs (disch := omega) [go_sem, -List.getD_eq_getElem?_getD, ite_yes]
  refine AIf.of (fun h => ?_) (fun h => ?_)
  · simp -dsimp -implicitDefEqProofs (disch := omega) [go_sem, -List.getD_eq_getElem?_getD, ite_yes]
    simp at h
    exact fin_flat0 rfl (by simp [cmpI, h])
  · simp -dsimp -implicitDefEqProofs (disch := omega) [go_sem, -List.getD_eq_getElem?_getD, ite_yes]
    simp at h
    refine AIf.of (fun h2 => ?_) (fun h2 => ?_)
    · simp -dsimp -implicitDefEqProofs (disch := omega) [go_sem, -List.getD_eq_getElem?_getD, ite_yes]
      simp at h2
      exact fin_flat0 rfl (by simp [cmpI, h2]; omega)
    · simp -dsimp -implicitDefEqProofs (disch := omega) [go_sem, -List.getD_eq_getElem?_getD, ite_yes]
      simp at h2
      exact fin_flat0 rfl (by simp [cmpI]; omega)
theorem l1Most_A (a b : Int) (H : Heap) : AFunC Try.prog 81 [.int .i64 a, .int .i64 b] H (.int .i64 (max a b)) H := by
  refine AFunC.of_body Try.func81 (by kernel_rfl) rfl (by kernel_rfl) (by simp [Try.ntmps81]) ?_
  simp -dsimp -implicitDefEqProofs (disch := omega) [go_sem, -List.getD_eq_getElem?_getD, ite_yes]
  refine AIf.of (fun h => ?_) (fun h => ?_)
  · simp -dsimp -implicitDefEqProofs (disch := omega) [go_sem, -List.getD_eq_getElem?_getD, ite_yes]
    simp at h
    exact fin_flat0 rfl (by congr 1; omega)
  · simp -dsimp -implicitDefEqProofs (disch := omega) [go_sem, -List.getD_eq_getElem?_getD, ite_yes]
    simp at h
    exact fin_flat0 rfl (by congr 1; omega)
theorem l3Common_A (a b : Nat) (ha : a ≤ 4000000000000000000) (hb : b ≤ 4000000000000000000) (H : Heap) : AFunC Try.prog 89 [.int .i64 a, .int .i64 b] H (.int .i64 (Nat.gcd a b : Nat)) H := by
  refine AFunC.of_body Try.func89 (by kernel_rfl) rfl (by kernel_rfl) (by simp [Try.ntmps89]) ?_
  have ma : max (a : Int) (-(a : Int)) = a := by omega
  have mb : max (b : Int) (-(b : Int)) = b := by omega
  simp -dsimp -implicitDefEqProofs (disch := omega) [go_sem, -List.getD_eq_getElem?_getD, ite_yes]
  refine ACall.of (l1Most_A _ _ _) ?_
  simp -dsimp -implicitDefEqProofs (disch := omega) [go_sem, -List.getD_eq_getElem?_getD, ite_yes, ma]
  refine ACall.of (l1Most_A _ _ _) ?_
  simp -dsimp -implicitDefEqProofs (disch := omega) [go_sem, -List.getD_eq_getElem?_getD, ite_yes, mb]
  refine ALoop.intro (ι := Nat × Nat) (fun p => p.1 ≤ 4000000000000000000 ∧ p.2 ≤ 4000000000000000000 ∧ Nat.gcd p.1 p.2 = Nat.gcd a b) (fun p => [(0, .int .i64 p.1), (1, .int .i64 p.2)]) (fun _ => H) (fun p => p.2) (a, b) ⟨ha, hb, rfl⟩ ?_ ?_
  · exact weakS_same (by simp -dsimp -implicitDefEqProofs (disch := omega) [go_sem, -List.getD_eq_getElem?_getD, ite_yes])
  · rintro ⟨x, y⟩ ⟨hx, hy, hg⟩
    simp only at hx hy hg
    by_cases h0 : y = 0
    · subst h0
      simp -dsimp -implicitDefEqProofs (disch := omega) [go_sem, -List.getD_eq_getElem?_getD, ite_yes]
      rw [Nat.gcd_zero_right] at hg
      exact fin_flat0 rfl (by rw [hg])
    · have h1 : (y : Int) ≠ 0 := by omega
      simp -dsimp -implicitDefEqProofs (disch := omega) [go_sem, -List.getD_eq_getElem?_getD, ite_yes, h0, h1]
      have hlt := Nat.mod_lt x (by omega : 0 < y)
      refine LoopEnd.of (y, x % y) ⟨hy, by omega, by rw [gcd_step]; exact hg⟩ hlt (weakS_same (by simp -dsimp -implicitDefEqProofs (disch := omega) [go_sem, -List.getD_eq_getElem?_getD, ite_yes]))
theorem l3Reduce_A (a b : Nat) (ha : a ≤ 4000000000000000000) (hb : b ≤ 4000000000000000000) (h0 : 0 < b) (H : Heap) : AFunC Try.prog 60 [.int .i64 a, .int .i64 b] H (.tuple #[.int .i64 (a / Nat.gcd a b : Nat), .int .i64 (b / Nat.gcd a b : Nat)]) H := by
  refine AFunC.of_body Try.func60 (by kernel_rfl) rfl (by kernel_rfl) (by simp [Try.ntmps60]) ?_
  have g0 := gcd_pos (a := a) h0
  have g1 : ((Nat.gcd a b : Nat) : Int) ≠ 0 := by omega
  have q1 := Nat.div_le_self a (Nat.gcd a b)
  have q2 := Nat.div_le_self b (Nat.gcd a b)
  simp -dsimp -implicitDefEqProofs (disch := omega) [go_sem, -List.getD_eq_getElem?_getD, ite_yes]
  refine ACall.of (l3Common_A a b ha hb _) ?_
  generalize Nat.gcd a b = g at *
  simp -dsimp -implicitDefEqProofs (disch := omega) [go_sem, -List.getD_eq_getElem?_getD, ite_yes]
  refine ADraw.quiet (by kernel_rfl) (by kernel_rfl) (by kernel_rfl) ?_
  have g2 : g ≠ 0 := by omega
  have w1 := wrapN q1 ha
  have w2 := wrapN q2 hb
  simp -dsimp -implicitDefEqProofs (disch := omega) [go_sem, -List.getD_eq_getElem?_getD, ite_yes, g1, g2, w1, w2, divC, -Int.natCast_ediv, -Int.natCast_mul, -Int.natCast_add, -Int.natCast_emod]
  exact fin_flat0 rfl rfl
end Go.Proofs.Ytncblopbcnkinaa
