/- Fractions: greatest common divisors, lowest terms, sums, comparisons. -/
import Derived.Test.YtncblopbcnkinaaGreatFacts
import Derived.Test.YtncblopbcnkinaaGreatAm11
import Derived.Test.YtncblopbcnkinaaGreatAm13
namespace Go.Proofs.YtncblopbcnkinaaGreat
open Go.Am
set_option linter.unusedVariables false
set_option linter.unusedSimpArgs false
set_option maxRecDepth 100000

theorem gcd_step {a b : Nat} : Nat.gcd b (a % b) = Nat.gcd a b := by rw [Nat.gcd_comm b, ← Nat.gcd_rec b a, Nat.gcd_comm]
theorem gcd_le {a b : Nat} (hb : 0 < b) : Nat.gcd a b ≤ b := Nat.gcd_le_right a hb
theorem gcd_pos {a b : Nat} (hb : 0 < b) : 0 < Nat.gcd a b := Nat.gcd_pos_of_pos_right a hb
theorem wrapN {n m : Nat} (h1 : n ≤ m) (h2 : m ≤ 4000000000000000000) : IntKind.i64.wrap (n : Int) = n := wrap_ok (by omega) (by omega)
theorem modC (a b : Nat) : (a : Int) % (b : Int) = ((a % b : Nat) : Int) := (Int.natCast_emod a b).symm
theorem divC (a b : Nat) : (a : Int) / (b : Int) = ((a / b : Nat) : Int) := (Int.natCast_ediv a b).symm
/-! ### lowest terms -/
def redN (a b : Nat) : Nat × Nat := (a / Nat.gcd a b, b / Nat.gcd a b)
def plusN (p q : Nat × Nat) : Nat × Nat := redN (p.1 * q.2 + q.1 * p.2) (p.2 * q.2)
theorem redN_scale {g a b : Nat} (hg : 0 < g) : redN (g * a) (g * b) = redN a b := by
  unfold redN
  rw [Nat.gcd_mul_left, Nat.mul_div_mul_left _ _ hg, Nat.mul_div_mul_left _ _ hg]
theorem redN_one (a : Nat) : redN a 1 = (a, 1) := by simp [redN]
theorem redN_whole (u : Nat) {d : Nat} (hd : 0 < d) : redN (u * d) d = (u, 1) := by
  have := redN_scale (g := d) (a := u) (b := 1) hd
  rw [Nat.mul_one, Nat.mul_comm d u, redN_one] at this
  exact this
theorem redN_zero {d : Nat} (hd : 0 < d) : redN 0 d = (0, 1) := by
  have := redN_whole 0 hd
  rwa [Nat.zero_mul] at this
theorem redN_eq (a : Nat) {b : Nat} (hb : 0 < b) : ∃ g, 0 < g ∧ a = g * (redN a b).1 ∧ b = g * (redN a b).2 := by
  refine ⟨Nat.gcd a b, gcd_pos hb, ?_, ?_⟩
  · exact (Nat.mul_div_cancel' (Nat.gcd_dvd_left a b)).symm
  · exact (Nat.mul_div_cancel' (Nat.gcd_dvd_right a b)).symm
theorem redN_pos {a b : Nat} (hb : 0 < b) : 0 < (redN a b).2 := by
  obtain ⟨g, h1, _, h3⟩ := redN_eq a hb
  rcases Nat.eq_zero_or_pos (redN a b).2 with h | h
  · rw [h] at h3; omega
  · exact h
theorem redN_le (a b : Nat) : (redN a b).1 ≤ a ∧ (redN a b).2 ≤ b := ⟨Nat.div_le_self _ _, Nat.div_le_self _ _⟩
theorem redN_redN (a : Nat) {b : Nat} (hb : 0 < b) : redN (redN a b).1 (redN a b).2 = redN a b := by
  obtain ⟨g, h1, h2, h3⟩ := redN_eq a hb
  have := redN_scale (a := (redN a b).1) (b := (redN a b).2) h1
  rw [← h2, ← h3] at this
  exact this.symm
theorem plusN_zero {a b : Nat} (hb : 0 < b) : plusN (redN a b) (0, 1) = redN a b := by
  unfold plusN
  simp only [Nat.mul_one, Nat.zero_mul, Nat.add_zero]
  exact redN_redN a hb
theorem plusN_whole (s u : Nat) : plusN (s, 1) (u, 1) = (s + u, 1) := by simp [plusN, redN_one]
theorem plusN_part (s x : Nat) {d : Nat} (hd : 0 < d) : plusN (s, 1) (redN x d) = redN (s * d + x) d := by
  obtain ⟨g, h1, h2, h3⟩ := redN_eq x hd
  have h := redN_scale (a := s * (redN x d).2 + (redN x d).1) (b := (redN x d).2) h1
  have e : g * (s * (redN x d).2 + (redN x d).1) = s * d + x := by
    conv => rhs; rw [h2]
    conv => rhs; lhs; rw [h3]
    rw [Nat.mul_add, Nat.mul_left_comm]
  rw [e, ← h3] at h
  unfold plusN
  simp only [Nat.mul_one, Nat.one_mul]
  exact h.symm
def cmpI (x y : Int) : Int := if x < y then -1 else if y < x then 1 else 0
theorem isNaN_A (n : Int) (H : Heap) : AFunC Tryz.prog 112 [.int .i64 n] H (.bool false) H := by
  refine AFunC.of_body Tryz.func112 (by kernel_rfl) rfl (by kernel_rfl) (by simp [Tryz.ntmps112]) ?_
  simp -dsimp -implicitDefEqProofs (disch := omega) [go_sem, -List.getD_eq_getElem?_getD, ite_yes]
  exact fin_flat0 rfl (by simp)
theorem l1Most_A (a b : Int) (H : Heap) : AFunC Tryz.prog 64 [.int .i64 a, .int .i64 b] H (.int .i64 (max a b)) H := by
  refine AFunC.of_body Tryz.func64 (by kernel_rfl) rfl (by kernel_rfl) (by simp [Tryz.ntmps64]) ?_
  simp -dsimp -implicitDefEqProofs (disch := omega) [go_sem, -List.getD_eq_getElem?_getD, ite_yes]
  refine AIf.of (fun h => ?_) (fun h => ?_)
  · simp -dsimp -implicitDefEqProofs (disch := omega) [go_sem, -List.getD_eq_getElem?_getD, ite_yes]
    simp at h
    exact fin_flat0 rfl (by congr 1; omega)
  · simp -dsimp -implicitDefEqProofs (disch := omega) [go_sem, -List.getD_eq_getElem?_getD, ite_yes]
    simp at h
    exact fin_flat0 rfl (by congr 1; omega)
end Go.Proofs.YtncblopbcnkinaaGreat
