/- Frac, UnSort, TakeLaw, AreRules, UnSeen, UnSeen2, UnNil, in one text. -/
import Derived.Test.YthnnbgggfpempaaDoorFacts
import Derived.Test.YthnnbgggfpempaaDoorAm11
import Derived.Test.YthnnbgggfpempaaDoorAm13
import Derived.Test.YthnnbgggfpempaaDoorRules
import Derived.Test.YthnnbgggfpempaaDoorAlM1
import Derived.Test.YthnnbgggfpempaaDoorAm15
import Derived.Test.YthnnbgggfpempaaDoorRecNm
/- Fractions: greatest common divisors, lowest terms, sums, comparisons. -/
namespace Go.Proofs.YthnnbgggfpempaaDoor
open Go.Am
set_option linter.unusedVariables false
set_option linter.unusedSimpArgs false
set_option maxRecDepth 100000

theorem gcd_step {a b : Nat} : Nat.gcd b (a % b) = Nat.gcd a b := by rw [Nat.gcd_comm b, ← Nat.gcd_rec b a, Nat.gcd_comm]
theorem gcd_le {a b : Nat} (hb : 0 < b) : Nat.gcd a b ≤ b := Nat.gcd_le_right a hb
theorem gcd_pos {a b : Nat} (hb : 0 < b) : 0 < Nat.gcd a b := Nat.gcd_pos_of_pos_right a hb
theorem wrapN {n m : Nat} (h1 : n ≤ m) (h2 : m ≤ 4000000000000000000) : IntKind.i64.wrap (n : Int) = n := wrap_ok (by omega) (by omega)
theorem modC (a b : Nat) : (a : Int) % (b : Int) = ((a % b : Nat) : Int) := (Int.natCast_emod a b).symm
theorem divC (a b : Nat) : (a : Int) / (b : Int) = ((a / b : Nat) : Int) := (Int.natCast_ediv a b).symm
theorem absOf_A (a : Nat) (ha : a ≤ 4000000000000000000) (H : Heap) : AFunC Tryd.prog 153 [.int .i64 a] H (.int .i64 a) H := by
  refine AFunC.of_body Tryd.func153 (by kernel_rfl) rfl (by kernel_rfl) (by simp [Tryd.ntmps153]) ?_
  simp -dsimp -implicitDefEqProofs (disch := omega) [go_sem, -List.getD_eq_getElem?_getD, ite_yes]
  refine fin_flat0 rfl ?_
  first | rfl | (congr 1; omega)
theorem gcdOf_A (a b : Nat) (ha : a ≤ 4000000000000000000) (hb : b ≤ 4000000000000000000) (H : Heap) : AFunC Tryd.prog 146 [.int .i64 a, .int .i64 b] H (.int .i64 (Nat.gcd a b : Nat)) H := by
  refine AFunC.of_body Tryd.func146 (by kernel_rfl) rfl (by kernel_rfl) (by simp [Tryd.ntmps146]) ?_
  simp -dsimp -implicitDefEqProofs (disch := omega) [go_sem, -List.getD_eq_getElem?_getD, ite_yes]
  refine ACall.of (absOf_A a ha _) ?_
  simp -dsimp -implicitDefEqProofs (disch := omega) [go_sem, -List.getD_eq_getElem?_getD, ite_yes]
  refine ACall.of (absOf_A b hb _) ?_
  simp -dsimp -implicitDefEqProofs (disch := omega) [go_sem, -List.getD_eq_getElem?_getD, ite_yes]
  refine ALoop.intro (ι := Nat × Nat) (fun p => p.1 ≤ 4000000000000000000 ∧ p.2 ≤ 4000000000000000000 ∧ Nat.gcd p.1 p.2 = Nat.gcd a b) (fun p => [(0, .int .i64 p.1), (1, .int .i64 p.2)]) (fun _ => H) (fun p => p.2) (a, b) ⟨ha, hb, rfl⟩ ?_ ?_
  · exact weakS_same (by simp -dsimp -implicitDefEqProofs (disch := omega) [go_sem, -List.getD_eq_getElem?_getD, ite_yes])
  · rintro ⟨x, y⟩ ⟨hx, hy, hg⟩
    simp only at hx hy hg
    by_cases h0 : y = 0
    · subst h0
      simp -dsimp -implicitDefEqProofs (disch := omega) [go_sem, -List.getD_eq_getElem?_getD, ite_yes]
      rw [Nat.gcd_zero_right] at hg
      exact fin_flat0 rfl (by rw [hg])
    · have h1 : (y : Int) ≠ 0 := by omega
      simp -dsimp -implicitDefEqProofs (disch := omega) [go_sem, -List.getD_eq_getElem?_getD, ite_yes, h0, h1]
      refine ADraw.quiet (by kernel_rfl) (by kernel_rfl) (by kernel_rfl) ?_
      simp -dsimp -implicitDefEqProofs (disch := omega) [go_sem, -List.getD_eq_getElem?_getD, ite_yes, h0, h1]
      have hlt := Nat.mod_lt x (by omega : 0 < y)
      refine LoopEnd.of (y, x % y) ⟨hy, by omega, by rw [gcd_step]; exact hg⟩ hlt (weakS_same (by simp -dsimp -implicitDefEqProofs (disch := omega) [go_sem, -List.getD_eq_getElem?_getD, ite_yes]))
theorem lowestTerms_A (a b : Nat) (ha : a ≤ 4000000000000000000) (hb : b ≤ 4000000000000000000) (h0 : 0 < b) (H : Heap) : AFunC Tryd.prog 118 [.int .i64 a, .int .i64 b] H (.tuple #[.int .i64 (a / Nat.gcd a b : Nat), .int .i64 (b / Nat.gcd a b : Nat)]) H := by
  refine AFunC.of_body Tryd.func118 (by kernel_rfl) rfl (by kernel_rfl) (by simp [Tryd.ntmps118]) ?_
  have g0 := gcd_pos (a := a) h0
  have g1 : ((Nat.gcd a b : Nat) : Int) ≠ 0 := by omega
  have q1 := Nat.div_le_self a (Nat.gcd a b)
  have q2 := Nat.div_le_self b (Nat.gcd a b)
  simp -dsimp -implicitDefEqProofs (disch := omega) [go_sem, -List.getD_eq_getElem?_getD, ite_yes]
  refine ACall.of (gcdOf_A a b ha hb _) ?_
  generalize Nat.gcd a b = g at *
  simp -dsimp -implicitDefEqProofs (disch := omega) [go_sem, -List.getD_eq_getElem?_getD, ite_yes]
  refine ADraw.quiet (by kernel_rfl) (by kernel_rfl) (by kernel_rfl) ?_
  have g2 : g ≠ 0 := by omega
  have w1 := wrapN q1 ha
  have w2 := wrapN q2 hb
  simp -dsimp -implicitDefEqProofs (disch := omega) [go_sem, -List.getD_eq_getElem?_getD, ite_yes, g1, g2, w1, w2, divC, -Int.natCast_ediv, -Int.natCast_mul, -Int.natCast_add, -Int.natCast_emod]
  exact fin_flat0 rfl rfl
theorem asPart_A (a b : Nat) (ha : a ≤ 4000000000000000000) (hb : b ≤ 4000000000000000000) (h0 : 0 < b) (H : Heap) : AFunC Tryd.prog 67 [.int .i64 a, .int .i64 b] H (.agg #[.int .i64 (a / Nat.gcd a b : Nat), .int .i64 (b / Nat.gcd a b : Nat)]) H := by
  refine AFunC.of_body Tryd.func67 (by kernel_rfl) rfl (by kernel_rfl) (by simp [Tryd.ntmps67]) ?_
  simp -dsimp -implicitDefEqProofs (disch := omega) [go_sem, -List.getD_eq_getElem?_getD, ite_yes]
  refine ACall.of (lowestTerms_A a b ha hb h0 _) ?_
  simp -dsimp -implicitDefEqProofs (disch := omega) [go_sem, -List.getD_eq_getElem?_getD, ite_yes, -Int.natCast_ediv, -Int.natCast_mul, -Int.natCast_add, -Int.natCast_emod]
  exact fin_flat rfl rfl
/-! ### lowest terms -/
def redN (a b : Nat) : Nat × Nat := (a / Nat.gcd a b, b / Nat.gcd a b)
def plusN (p q : Nat × Nat) : Nat × Nat := redN (p.1 * q.2 + q.1 * p.2) (p.2 * q.2)
theorem redN_scale {g a b : Nat} (hg : 0 < g) : redN (g * a) (g * b) = redN a b := by
  unfold redN
  rw [Nat.gcd_mul_left, Nat.mul_div_mul_left _ _ hg, Nat.mul_div_mul_left _ _ hg]
theorem redN_one (a : Nat) : redN a 1 = (a, 1) := by simp [redN]
theorem redN_whole (u : Nat) {d : Nat} (hd : 0 < d) : redN (u * d) d = (u, 1) := by
  have := redN_scale (g := d) (a := u) (b := 1) hd
  rw [Nat.mul_one, Nat.mul_comm d u, redN_one] at this
  exact this
theorem redN_zero {d : Nat} (hd : 0 < d) : redN 0 d = (0, 1) := by
  have := redN_whole 0 hd
  rwa [Nat.zero_mul] at this
theorem redN_eq (a : Nat) {b : Nat} (hb : 0 < b) : ∃ g, 0 < g ∧ a = g * (redN a b).1 ∧ b = g * (redN a b).2 := by
  refine ⟨Nat.gcd a b, gcd_pos hb, ?_, ?_⟩
  · exact (Nat.mul_div_cancel' (Nat.gcd_dvd_left a b)).symm
  · exact (Nat.mul_div_cancel' (Nat.gcd_dvd_right a b)).symm
theorem redN_pos {a b : Nat} (hb : 0 < b) : 0 < (redN a b).2 := by
  obtain ⟨g, h1, _, h3⟩ := redN_eq a hb
  rcases Nat.eq_zero_or_pos (redN a b).2 with h | h
  · rw [h] at h3; omega
  · exact h
theorem redN_le (a b : Nat) : (redN a b).1 ≤ a ∧ (redN a b).2 ≤ b := ⟨Nat.div_le_self _ _, Nat.div_le_self _ _⟩
theorem redN_redN (a : Nat) {b : Nat} (hb : 0 < b) : redN (redN a b).1 (redN a b).2 = redN a b := by
  obtain ⟨g, h1, h2, h3⟩ := redN_eq a hb
  have := redN_scale (a := (redN a b).1) (b := (redN a b).2) h1
  rw [← h2, ← h3] at this
  exact this.symm
theorem plusN_zero {a b : Nat} (hb : 0 < b) : plusN (redN a b) (0, 1) = redN a b := by
  unfold plusN
  simp only [Nat.mul_one, Nat.zero_mul, Nat.add_zero]
  exact redN_redN a hb
theorem plusN_whole (s u : Nat) : plusN (s, 1) (u, 1) = (s + u, 1) := by simp [plusN, redN_one]
theorem plusN_part (s x : Nat) {d : Nat} (hd : 0 < d) : plusN (s, 1) (redN x d) = redN (s * d + x) d := by
  obtain ⟨g, h1, h2, h3⟩ := redN_eq x hd
  have h := redN_scale (a := s * (redN x d).2 + (redN x d).1) (b := (redN x d).2) h1
  have e : g * (s * (redN x d).2 + (redN x d).1) = s * d + x := by
    conv => rhs; rw [h2]
    conv => rhs; lhs; rw [h3]
    rw [Nat.mul_add, Nat.mul_left_comm]
  rw [e, ← h3] at h
  unfold plusN
  simp only [Nat.mul_one, Nat.one_mul]
  exact h.symm
def cmpI (x y : Int) : Int := if x < y then -1 else if y < x then 1 else 0
theorem isNaN_A (n : Int) (H : Heap) : AFunC Tryd.prog 144 [.int .i64 n] H (.bool false) H := by
  refine AFunC.of_body Tryd.func144 (by kernel_rfl) rfl (by kernel_rfl) (by simp [Tryd.ntmps144]) ?_
  simp -dsimp -implicitDefEqProofs (disch := omega) [go_sem, -List.getD_eq_getElem?_getD, ite_yes]
  exact fin_flat0 rfl (by simp)
theorem compare_A (x y : Int) (H : Heap) : AFunC Tryd.prog 113 [.int .i64 x, .int .i64 y] H (.int .i64 (cmpI x y)) H := by
  refine AFunC.of_body Tryd.func113 (by kernel_rfl) rfl (by kernel_rfl) (by simp [Tryd.ntmps113]) ?_
  simp -dsimp -implicitDefEqProofs (disch := omega) [go_sem, -List.getD_eq_getElem?_getD, ite_yes]
  refine ACall.of (isNaN_A _ _) ?_
  simp -dsimp -implicitDefEqProofs (disch := omega) [go_sem, -List.getD_eq_getElem?_getD, ite_yes]
  refine ACall.of (isNaN_A _ _) ?_
  simp -dsimp -implicitDefEqProofs (disch := omega) [go_sem, -List.getD_eq_getElem?_getD, ite_yes]
  refine AIf.of (fun h => ?_) (fun h => ?_)
  · simp -dsimp -implicitDefEqProofs (disch := omega) [go_sem, -List.getD_eq_getElem?_getD, ite_yes]
    simp at h
    exact fin_flat0 rfl (by simp [cmpI, h])
  · simp -dsimp -implicitDefEqProofs (disch := omega) [go_sem, -List.getD_eq_getElem?_getD, ite_yes]
    simp at h
    refine AIf.of (fun h2 => ?_) (fun h2 => ?_)
    · simp -dsimp -implicitDefEqProofs (disch := omega) [go_sem, -List.getD_eq_getElem?_getD, ite_yes]
      simp at h2
      exact fin_flat0 rfl (by simp [cmpI, h2]; omega)
    · simp -dsimp -implicitDefEqProofs (disch := omega) [go_sem, -List.getD_eq_getElem?_getD, ite_yes]
      simp at h2
      exact fin_flat0 rfl (by simp [cmpI]; omega)
theorem partCompare_A (a c : Int) (b d : Int) (ha : -1000000000 ≤ a ∧ a ≤ 1000000000) (hb : 0 ≤ b ∧ b ≤ 1000000000) (hc : -1000000000 ≤ c ∧ c ≤ 1000000000) (hd : 0 ≤ d ∧ d ≤ 1000000000) (H : Heap) : AFunC Tryd.prog 68 [.agg #[.int .i64 a, .int .i64 b], .agg #[.int .i64 c, .int .i64 d]] H (.int .i64 (cmpI (a * d) (c * b))) H := by
  refine AFunC.of_body Tryd.func68 (by kernel_rfl) rfl (by kernel_rfl) (by simp [Tryd.ntmps68]) ?_
  have key : ∀ x y : Int, -1000000000 ≤ x → x ≤ 1000000000 → 0 ≤ y → y ≤ 1000000000 → -1000000000000000000 ≤ x * y ∧ x * y ≤ 1000000000000000000 := fun x y h1 h2 h3 h4 => by
    have m1 := Int.mul_le_mul_of_nonneg_right h1 h3
    have m2 := Int.mul_le_mul_of_nonneg_right h2 h3
    omega
  have k1 := key a d ha.1 ha.2 hd.1 hd.2
  have k2 := key c b hc.1 hc.2 hb.1 hb.2
  simp -dsimp -implicitDefEqProofs (disch := omega) [go_sem, -List.getD_eq_getElem?_getD, ite_yes]
  refine ACall.of (compare_A _ _ _) ?_
  simp -dsimp -implicitDefEqProofs (disch := omega) [go_sem, -List.getD_eq_getElem?_getD, ite_yes]
  exact fin_flat rfl rfl
theorem l1Most_A (a b : Int) (H : Heap) : AFunC Tryd.prog 89 [.int .i64 a, .int .i64 b] H (.int .i64 (max a b)) H := by
  refine AFunC.of_body Tryd.func89 (by kernel_rfl) rfl (by kernel_rfl) (by simp [Tryd.ntmps89]) ?_
  simp -dsimp -implicitDefEqProofs (disch := omega) [go_sem, -List.getD_eq_getElem?_getD, ite_yes]
  refine AIf.of (fun h => ?_) (fun h => ?_)
  · simp -dsimp -implicitDefEqProofs (disch := omega) [go_sem, -List.getD_eq_getElem?_getD, ite_yes]
    simp at h
    exact fin_flat0 rfl (by congr 1; omega)
  · simp -dsimp -implicitDefEqProofs (disch := omega) [go_sem, -List.getD_eq_getElem?_getD, ite_yes]
    simp at h
    exact fin_flat0 rfl (by congr 1; omega)
theorem l1Least_A (a b : Int) (H : Heap) : AFunC Tryd.prog 90 [.int .i64 a, .int .i64 b] H (.int .i64 (min a b)) H := by
  refine AFunC.of_body Tryd.func90 (by kernel_rfl) rfl (by kernel_rfl) (by simp [Tryd.ntmps90]) ?_
  simp -dsimp -implicitDefEqProofs (disch := omega) [go_sem, -List.getD_eq_getElem?_getD, ite_yes]
  refine AIf.of (fun h => ?_) (fun h => ?_)
  · simp -dsimp -implicitDefEqProofs (disch := omega) [go_sem, -List.getD_eq_getElem?_getD, ite_yes]
    simp at h
    exact fin_flat0 rfl (by congr 1; omega)
  · simp -dsimp -implicitDefEqProofs (disch := omega) [go_sem, -List.getD_eq_getElem?_getD, ite_yes]
    simp at h
    exact fin_flat0 rfl (by congr 1; omega)
theorem l3Common_A (a b : Nat) (ha : a ≤ 4000000000000000000) (hb : b ≤ 4000000000000000000) (H : Heap) : AFunC Tryd.prog 119 [.int .i64 a, .int .i64 b] H (.int .i64 (Nat.gcd a b : Nat)) H := by
  refine AFunC.of_body Tryd.func119 (by kernel_rfl) rfl (by kernel_rfl) (by simp [Tryd.ntmps119]) ?_
  have ma : max (a : Int) (-(a : Int)) = a := by omega
  have mb : max (b : Int) (-(b : Int)) = b := by omega
  simp -dsimp -implicitDefEqProofs (disch := omega) [go_sem, -List.getD_eq_getElem?_getD, ite_yes]
  refine ACall.of (l1Most_A _ _ _) ?_
  simp -dsimp -implicitDefEqProofs (disch := omega) [go_sem, -List.getD_eq_getElem?_getD, ite_yes, ma]
  refine ACall.of (l1Most_A _ _ _) ?_
  simp -dsimp -implicitDefEqProofs (disch := omega) [go_sem, -List.getD_eq_getElem?_getD, ite_yes, mb]
  refine ALoop.intro (ι := Nat × Nat) (fun p => p.1 ≤ 4000000000000000000 ∧ p.2 ≤ 4000000000000000000 ∧ Nat.gcd p.1 p.2 = Nat.gcd a b) (fun p => [(0, .int .i64 p.1), (1, .int .i64 p.2)]) (fun _ => H) (fun p => p.2) (a, b) ⟨ha, hb, rfl⟩ ?_ ?_
  · exact weakS_same (by simp -dsimp -implicitDefEqProofs (disch := omega) [go_sem, -List.getD_eq_getElem?_getD, ite_yes])
  · rintro ⟨x, y⟩ ⟨hx, hy, hg⟩
    simp only at hx hy hg
    by_cases h0 : y = 0
    · subst h0
      simp -dsimp -implicitDefEqProofs (disch := omega) [go_sem, -List.getD_eq_getElem?_getD, ite_yes]
      rw [Nat.gcd_zero_right] at hg
      exact fin_flat0 rfl (by rw [hg])
    · have h1 : (y : Int) ≠ 0 := by omega
      simp -dsimp -implicitDefEqProofs (disch := omega) [go_sem, -List.getD_eq_getElem?_getD, ite_yes, h0, h1]
      have hlt := Nat.mod_lt x (by omega : 0 < y)
      refine LoopEnd.of (y, x % y) ⟨hy, by omega, by rw [gcd_step]; exact hg⟩ hlt (weakS_same (by simp -dsimp -implicitDefEqProofs (disch := omega) [go_sem, -List.getD_eq_getElem?_getD, ite_yes]))
theorem l3Reduce_A (a b : Nat) (ha : a ≤ 4000000000000000000) (hb : b ≤ 4000000000000000000) (h0 : 0 < b) (H : Heap) : AFunC Tryd.prog 71 [.int .i64 a, .int .i64 b] H (.tuple #[.int .i64 (a / Nat.gcd a b : Nat), .int .i64 (b / Nat.gcd a b : Nat)]) H := by
  refine AFunC.of_body Tryd.func71 (by kernel_rfl) rfl (by kernel_rfl) (by simp [Tryd.ntmps71]) ?_
  have g0 := gcd_pos (a := a) h0
  have g1 : ((Nat.gcd a b : Nat) : Int) ≠ 0 := by omega
  have q1 := Nat.div_le_self a (Nat.gcd a b)
  have q2 := Nat.div_le_self b (Nat.gcd a b)
  simp -dsimp -implicitDefEqProofs (disch := omega) [go_sem, -List.getD_eq_getElem?_getD, ite_yes]
  refine ACall.of (l3Common_A a b ha hb _) ?_
  generalize Nat.gcd a b = g at *
  simp -dsimp -implicitDefEqProofs (disch := omega) [go_sem, -List.getD_eq_getElem?_getD, ite_yes]
  refine ADraw.quiet (by kernel_rfl) (by kernel_rfl) (by kernel_rfl) ?_
  have g2 : g ≠ 0 := by omega
  have w1 := wrapN q1 ha
  have w2 := wrapN q2 hb
  simp -dsimp -implicitDefEqProofs (disch := omega) [go_sem, -List.getD_eq_getElem?_getD, ite_yes, g1, g2, w1, w2, divC, -Int.natCast_ediv, -Int.natCast_mul, -Int.natCast_add, -Int.natCast_emod]
  exact fin_flat0 rfl rfl
end Go.Proofs.YthnnbgggfpempaaDoor
/- UnseenNodes: the order of the alarms, and the sort. -/
namespace Go.Proofs.YthnnbgggfpempaaDoor
open Go.Am
set_option linter.unusedVariables false
set_option linter.unusedSimpArgs false
set_option maxRecDepth 100000
set_option maxHeartbeats 4000000

abbrev alD : Al := (0, 0, 0, false)
/-- where an alarm belongs among some: behind the last that is not later, of the first k -/
def posA (L : List Al) (x : Al) : Nat → Nat
  | 0 => 0
  | k + 1 => if x.2.2.1 < (L.getD k alD).2.2.1 then posA L x k else k + 1
theorem posA_le (L : List Al) (x : Al) : ∀ k, posA L x k ≤ k
  | 0 => Nat.le_refl _
  | k + 1 => by have := posA_le L x k; rw [posA]; split <;> omega
def insA (L : List Al) (x : Al) : List Al := L.take (posA L x L.length) ++ x :: L.drop (posA L x L.length)
def ordA (l : List Al) : Nat → List Al
  | 0 => []
  | i + 1 => insA (ordA l i) (l.getD i alD)
theorem insA_length (L : List Al) (x : Al) : (insA L x).length = L.length + 1 := by
  have := posA_le L x L.length
  rw [insA]
  simp only [List.length_append, List.length_take, List.length_cons, List.length_drop]
  omega
theorem ordA_length (l : List Al) : ∀ i, (ordA l i).length = i
  | 0 => rfl
  | i + 1 => by rw [ordA, insA_length, ordA_length l i]
theorem ordA_app (l m : List Al) : ∀ i, i ≤ l.length → ordA (l ++ m) i = ordA l i
  | 0, _ => rfl
  | i + 1, h => by
    rw [ordA, ordA, ordA_app l m i (by omega)]
    congr 1
    rw [List.getD_eq_getElem?_getD, List.getD_eq_getElem?_getD, List.getElem?_append_left (by omega)]
def sortA (l : List Al) : List Al := ordA l l.length
theorem sortA_snoc (l : List Al) (x : Al) : sortA (l ++ [x]) = insA (sortA l) x := by
  unfold sortA
  rw [List.length_append, List.length_singleton, ordA, ordA_app l [x] l.length (Nat.le_refl _)]
  congr 1
  rw [List.getD_eq_getElem?_getD, List.getElem?_append_right (Nat.le_refl _), Nat.sub_self]; rfl
/-- those of the first k that are not seen -/
def unTo (l : List Al) (k : Nat) : List Al := (l.take k).filter fun a => !a.2.2.2
theorem unTo_next {l : List Al} {k : Nat} (h : k < l.length) : unTo l (k + 1) = if (l.getD k alD).2.2.2 = true then unTo l k else unTo l k ++ [l.getD k alD] := by
  unfold unTo
  rw [List.take_succ_eq_append_getElem h, List.filter_append, List.getD_eq_getElem?_getD, List.getElem?_eq_getElem h]
  cases hs : (l[k]).2.2.2 <;> simp [hs]
theorem unTo_length (l : List Al) (k : Nat) : (unTo l k).length ≤ k := by
  unfold unTo
  have := List.length_filter_le (fun a : Al => !a.2.2.2) (l.take k)
  rw [List.length_take] at this
  omega
def unN (l : List Al) : List Int := (sortA (unTo l l.length)).map (·.1)
theorem goodA_small {l : List Al} (h : goodA l = true) : l.length ≤ 8 := by
  have ha := asc_at h
  have key : ∀ i, i < l.length → (i : Int) + 1 ≤ (l.getD i (0, 0, 0, false)).1 ∧ (l.getD i (0, 0, 0, false)).1 ≤ 8 := by
    intro i
    induction i with
    | zero =>
      intro hi
      have h1 := (ha 0 hi).1
      simp only [isAl, inB, Bool.and_eq_true, decide_eq_true_eq] at h1
      omega
    | succ i ih =>
      intro hi
      have h0 := ih (by omega)
      have h1 := (ha (i + 1) hi).1
      have h2 := (ha (i + 1) hi).2 (by omega)
      simp only [isAl, inB, Bool.and_eq_true, decide_eq_true_eq] at h1
      simp only [goodAR, decide_eq_true_eq, Nat.add_sub_cancel] at h2
      omega
  rcases Nat.lt_or_ge 8 l.length with h8 | h8
  · have := key 8 h8
    omega
  · exact h8
/-- the list within the sort: the i-th stands at j -/
def midA (l : List Al) (i j : Nat) : List Al := (ordA l i).take j ++ l.getD i alD :: ((ordA l i).drop j ++ l.drop (i + 1))
def outA (l : List Al) (i : Nat) : List Al := ordA l i ++ l.drop i
theorem outA_mid {l : List Al} {i : Nat} (h : i < l.length) : outA l i = midA l i i := by
  unfold outA midA
  rw [show (ordA l i).take i = ordA l i from List.take_of_length_le (by rw [ordA_length]; omega), show (ordA l i).drop i = [] from List.drop_of_length_le (by rw [ordA_length]; omega), List.nil_append, List.drop_eq_getElem_cons h, List.getD_eq_getElem?_getD, List.getElem?_eq_getElem h]
  rfl
theorem midA_out (l : List Al) (i : Nat) : midA l i (posA (ordA l i) (l.getD i alD) i) = outA l (i + 1) := by
  unfold outA midA
  rw [ordA, insA, ordA_length, List.append_assoc, List.cons_append]
theorem al_at (A T : List Al) (y : Al) : List.take 4 (List.drop (A.length * 4) ((A ++ y :: T).flatMap alE)) = alE y := by
  have := flatMap_cells alE 4 (fun _ => rfl) alD (A ++ y :: T) A.length (by simp)
  rw [this]
  simp
theorem al_put (A T : List Al) (y z : Al) : (A ++ z :: T).flatMap alE = ((A ++ y :: T).flatMap alE).take (A.length * 4) ++ (alE z ++ ((A ++ y :: T).flatMap alE).drop (A.length * 4 + 4)) := by
  have := set_flat_eq (f := alE) (s := 4) (l := A ++ y :: T) (i := A.length) (fun _ => rfl) z (by simp)
  rw [← this]
  simp
def unF (x : Al) : List Value := alE x
theorem unCmp_A (x y : Al) (H : Heap) : AFunC Tryd.prog 112 [.agg #[.int .i64 x.1, .int .i64 x.2.1, .int .i64 x.2.2.1, .bool x.2.2.2], .agg #[.int .i64 y.1, .int .i64 y.2.1, .int .i64 y.2.2.1, .bool y.2.2.2]] H (.int .i64 (cmpI x.2.2.1 y.2.2.1)) H := by
  refine AFunC.of_body Tryd.func112 (by kernel_rfl) rfl (by kernel_rfl) (by simp [Tryd.ntmps112]) ?_
  simp -dsimp -implicitDefEqProofs (disch := omega) [go_sem, -List.getD_eq_getElem?_getD, ite_yes]
  refine ACall.of (compare_A _ _ _) ?_
  simp -dsimp -implicitDefEqProofs (disch := omega) [go_sem, -List.getD_eq_getElem?_getD, ite_yes]
  first | exact fin_flat0 rfl rfl | exact fin_flat rfl rfl
end Go.Proofs.YthnnbgggfpempaaDoor
/- Taking a reading twice, the alarms of other nodes, and what is not seen: plain. -/
namespace Go.Proofs.YthnnbgggfpempaaDoor
open Go.Am
set_option linter.unusedVariables false
set_option linter.unusedSimpArgs false
theorem kindN_twice (rule : Ar) (k v : Int) : kindN rule (kindN rule k v) v = kindN rule k v := by
  by_cases h1 : v < rule.2.1
  · unfold kindN; rw [if_pos h1, if_pos h1]
  · by_cases h2 : rule.2.2.1 < v
    · unfold kindN; rw [if_neg h1, if_neg h1, if_pos h2, if_pos h2]
    · by_cases h3 : rule.2.1 + rule.2.2.2 ≤ v ∧ v ≤ rule.2.2.1 - rule.2.2.2
      · unfold kindN; rw [if_neg h1, if_neg h1, if_neg h2, if_neg h2, if_pos h3, if_pos h3]
      · unfold kindN; rw [if_neg h1, if_neg h1, if_neg h2, if_neg h2, if_neg h3, if_neg h3]
theorem lowN_zero (node : Int) {B : List Al} (h : ∀ a ∈ B, ¬ a.1 < node) : lowN node B = 0 := by
  cases B with
  | nil => rfl
  | cons a r => rw [lowN, if_neg (h a (by simp))]
theorem lowN_app (node : Int) : ∀ {A B : List Al}, (∀ a ∈ A, a.1 < node) → lowN node (A ++ B) = A.length + lowN node B
  | [], B, _ => by simp
  | a :: r, B, h => by
    rw [List.cons_append, lowN, if_pos (h a (by simp)), lowN_app node fun x hx => h x (by simp [hx]), List.length_cons]
    omega
theorem mid_of (rule : Ar) (l : List Al) (r : Rg) : ∃ mid : List Al, take1 rule l r = l.take (lowN r.2.1 l) ++ (mid ++ l.drop (nextN l r.2.1)) ∧ ∀ a ∈ mid, a.1 = r.2.1 := by
  refine ⟨if kindN rule (oldN l r.2.1) r.2.2 = 0 then [] else [newA rule l r], by rw [take1, List.append_assoc], fun a ha => ?_⟩
  split at ha
  · cases ha
  · rw [List.mem_singleton] at ha
    rw [ha, newA_node]
theorem take1_low {rule : Ar} {l : List Al} {r : Rg} (h : Ord l) : lowN r.2.1 (take1 rule l r) = lowN r.2.1 l := by
  obtain ⟨mid, e, hm⟩ := mid_of rule l r
  have ple := lowN_le r.2.1 l
  have z : lowN r.2.1 (mid ++ l.drop (nextN l r.2.1)) = 0 := lowN_zero _ fun a ha => by
    rcases List.mem_append.1 ha with ha | ha
    · rw [hm a ha]; omega
    · have := mem_drop_gt h ha; omega
  rw [e, lowN_app r.2.1 fun a ha => mem_take_lt ha, z, List.length_take]
  omega
theorem take1_old {rule : Ar} {l : List Al} {r : Rg} (h : Ord l) (hr : isRg r = true) : oldN (take1 rule l r) r.2.1 = kindN rule (oldN l r.2.1) r.2.2 := by
  have lo := take1_low (rule := rule) (r := r) h
  have ho := oldN_rng h r.2.1
  have ple := lowN_le r.2.1 l
  have tl : (l.take (lowN r.2.1 l)).length = lowN r.2.1 l := by rw [List.length_take]; omega
  unfold oldN hasN
  rw [lo]
  by_cases hk : kindN rule (oldN l r.2.1) r.2.2 = 0
  · have e : take1 rule l r = l.take (lowN r.2.1 l) ++ l.drop (nextN l r.2.1) := take1_off hk
    have hno : ¬ (lowN r.2.1 l < (take1 rule l r).length ∧ ((take1 rule l r).getD (lowN r.2.1 l) aD).1 = r.2.1) := by
      rintro ⟨h1, h2⟩
      rw [getD_el h1] at h2
      have hm : (take1 rule l r)[lowN r.2.1 l] ∈ l.drop (nextN l r.2.1) := by
        have := List.getElem_mem h1
        simp only [e]
        rw [List.getElem_append_right (by omega)]
        exact List.getElem_mem _
      have := mem_drop_gt h hm
      omega
    rw [decide_eq_false hno]
    simp only [Bool.false_eq_true, if_false]
    exact hk.symm
  · have e : take1 rule l r = l.take (lowN r.2.1 l) ++ (newA rule l r :: l.drop (nextN l r.2.1)) := by
      rw [take1, if_neg hk, List.append_assoc]; rfl
    have g : (take1 rule l r).getD (lowN r.2.1 l) aD = newA rule l r := by
      rw [e, List.getD_eq_getElem?_getD, List.getElem?_append_right (by omega), tl, Nat.sub_self]; rfl
    have hlen : lowN r.2.1 l < (take1 rule l r).length := by rw [e, List.length_append, List.length_cons, tl]; omega
    have hyes : lowN r.2.1 l < (take1 rule l r).length ∧ ((take1 rule l r).getD (lowN r.2.1 l) aD).1 = r.2.1 := ⟨hlen, by rw [g]; exact newA_node⟩
    rw [decide_eq_true hyes, g]
    simp only [if_true]
    show (newA rule l r).2.1 = kindN rule (oldN l r.2.1) r.2.2
    unfold newA
    by_cases hs : kindN rule (oldN l r.2.1) r.2.2 = oldN l r.2.1
    · rw [if_pos hs]
      by_cases hh : hasN l r.2.1 = true
      · rw [if_pos hh, hs]
        unfold oldN
        rw [if_pos hh]
      · exfalso
        apply hk
        rw [hs]
        unfold oldN
        rw [if_neg hh]
    · rw [if_neg hs]
theorem takeL_twice {rs : List Ar} {l : List Al} {r : Rg} (h : Ord l) (hr : isRg r = true) : takeL rs (takeL rs l r) r = takeL rs l r := by
  unfold takeL
  split
  · rfl
  · refine take1_same (take1_ord h hr) ?_
    rw [take1_old h hr]
    exact kindN_twice _ _ _
/-- how many of the first k are of other nodes -/
def cntTo (l : List Al) (node : Int) (k : Nat) : Nat := ((l.take k).filter fun a => decide (a.1 ≠ node)).length
theorem cntTo_next {l : List Al} {node : Int} {k : Nat} (h : k < l.length) : cntTo l node (k + 1) = if (l.getD k aD).1 = node then cntTo l node k else cntTo l node k + 1 := by
  unfold cntTo
  rw [List.take_succ_eq_append_getElem h, List.filter_append, List.length_append, getD_el h]
  by_cases e : l[k].1 = node
  · simp [e]
  · simp [e]
theorem cntTo_le (l : List Al) (node : Int) (k : Nat) : cntTo l node k ≤ k := by
  unfold cntTo
  have := List.length_filter_le (fun a : Al => decide (a.1 ≠ node)) (l.take k)
  rw [List.length_take] at this
  omega
theorem cnt_parts {l mid : List Al} {node : Int} (h : Ord l) (hm : ∀ a ∈ mid, a.1 = node) : (l.take (lowN node l) ++ (mid ++ l.drop (nextN l node))).filter (fun a => decide (a.1 ≠ node)) = l.take (lowN node l) ++ l.drop (nextN l node) := by
  rw [List.filter_append, List.filter_append, List.filter_eq_self.2 fun a ha => by
      have := mem_take_lt ha
      exact decide_eq_true (by omega), List.filter_eq_nil_iff.2 fun a ha => by simp [hm a ha], List.nil_append, List.filter_eq_self.2 fun a ha => by
      have := mem_drop_gt h ha
      exact decide_eq_true (by omega)]
theorem own_parts (l : List Al) (node : Int) : ∃ mid : List Al, l = l.take (lowN node l) ++ (mid ++ l.drop (nextN l node)) ∧ ∀ a ∈ mid, a.1 = node := by
  by_cases hh : hasN l node = true
  · refine ⟨[l.getD (lowN node l) aD], ?_, fun a ha => ?_⟩
    · unfold nextN
      rw [if_pos hh, List.singleton_append]
      exact (take_has hh).symm
    · rw [List.mem_singleton] at ha
      rw [ha]
      exact (of_decide_eq_true hh).2
  · refine ⟨[], ?_, by simp⟩
    unfold nextN
    rw [if_neg hh, Nat.add_zero, List.nil_append, List.take_append_drop]
theorem cnt_take {rs : List Ar} {l : List Al} {r : Rg} (h : Ord l) : cntTo (takeL rs l r) r.2.1 (takeL rs l r).length = cntTo l r.2.1 l.length := by
  unfold takeL
  split
  · rfl
  · obtain ⟨m1, e1, h1⟩ := mid_of (rs.getD (ruleI rs r.2.1).toNat rD) l r
    obtain ⟨m2, e2, h2⟩ := own_parts l r.2.1
    unfold cntTo
    rw [List.take_length, List.take_length, e1, cnt_parts h h1]
    conv => rhs; rw [e2]
    rw [cnt_parts h h2]
theorem ordA_mem {l : List Al} {a : Al} : ∀ i, i ≤ l.length → a ∈ ordA l i → a ∈ l
  | 0, _, h => by cases h
  | i + 1, hi, h => by
    rw [ordA, insA] at h
    rcases List.mem_append.1 h with h | h
    · exact ordA_mem i (by omega) (List.mem_of_mem_take h)
    · rcases List.mem_cons.1 h with h | h
      · rw [h, getD_el (by omega)]; exact List.getElem_mem _
      · exact ordA_mem i (by omega) (List.mem_of_mem_drop h)
/-- a node whose alarm is seen is none of those that are not -/
theorem unseen_no {l : List Al} {node : Int} {i : Nat} (h : Ord l) (hi : i < l.length) (hn : (l.getD i aD).1 = node) : ∀ k, k < (unN (seeL l i)).length → (unN (seeL l i)).getD k 0 ≠ node := by
  intro k hk e
  have hm : (unN (seeL l i)).getD k 0 ∈ unN (seeL l i) := by
    rw [List.getD_eq_getElem?_getD, List.getElem?_eq_getElem hk]; exact List.getElem_mem _
  rw [e] at hm
  unfold unN at hm
  obtain ⟨a, ha, ea⟩ := List.mem_map.1 hm
  have ha2 := ordA_mem _ (Nat.le_refl _) ha
  unfold unTo at ha2
  rw [List.take_length] at ha2
  obtain ⟨ha3, ha4⟩ := List.mem_filter.1 ha2
  obtain ⟨j, hj, ej⟩ := List.getElem_of_mem ha3
  have hj2 : j < l.length := by rw [seeL_length] at hj; exact hj
  have ej2 : (seeL l i)[j]? = some a := by rw [List.getElem?_eq_getElem hj, ej]
  unfold seeL at ej2
  by_cases hij : i = j
  · subst hij
    rw [List.getElem?_set_self hj2] at ej2
    cases ej2
    simp at ha4
  · rw [List.getElem?_set_ne hij, List.getElem?_eq_getElem hj2] at ej2
    cases ej2
    rw [getD_el hi] at hn
    have hp := List.pairwise_iff_getElem.1 h.2
    rcases Nat.lt_or_ge i j with hlt | hge
    · have := hp i j hi hj2 hlt
      omega
    · have := hp j i hj2 hi (by omega)
      omega
end Go.Proofs.YthnnbgggfpempaaDoor
/- AreRules: the law. -/
namespace Go.Proofs.YthnnbgggfpempaaDoor
open Go.Am
set_option linter.unusedVariables false
set_option linter.unusedSimpArgs false
set_option maxRecDepth 100000
set_option maxHeartbeats 1000000

theorem sAreRules_A (l : List Ar) (hl : l.length ≤ 1048577) (c : Nat) (H : Heap) (t : Nat) (hS : Sl arE H t l) :
    AFunC Tryd.prog 41 [.slice (some ⟨t, 0, none⟩) l.length c] H (.bool (goodR l)) H := by
  refine AFunC.of_body Tryd.func41 (by kernel_rfl) rfl (by kernel_rfl) (by simp [Tryd.ntmps41]) ?_
  have ht := hS.lt
  simp -dsimp -implicitDefEqProofs (disch := omega) [go_sem, -List.getD_eq_getElem?_getD, ite_yes]
  refine ACall.of (l21Rules_A l hl c H t hS) ?_
  simp -dsimp -implicitDefEqProofs (disch := omega) [go_sem, -List.getD_eq_getElem?_getD, ite_yes]
  exact fin_flat0 rfl rfl
end Go.Proofs.YthnnbgggfpempaaDoor
/- UnseenNodes: the sort by insertion. -/
namespace Go.Proofs.YthnnbgggfpempaaDoor
open Go.Am
set_option linter.unusedVariables false
set_option linter.unusedSimpArgs false
set_option maxRecDepth 100000
set_option maxHeartbeats 4000000

theorem insUn_A (l : List Al) (hl8 : l.length ≤ 8) (c e : Nat) (H : Heap) (t : Nat) (hb : H.get t = some ⟨l.flatMap alE, true, e, 4⟩) :
    AFunC Tryd.prog 150 [.slice (some ⟨t, 0, none⟩) l.length c, .int .i64 0, .int .i64 l.length, .func (.func 112) #[] #[]] H (.tuple #[]) (H.set t (some ⟨(sortA l).flatMap alE, true, e, 4⟩)) := by
  refine AFunC.of_body Tryd.func150 (by kernel_rfl) rfl (by kernel_rfl) (by simp [Tryd.ntmps150]) ?_
  have ht := Heap.get_lt hb
  have gs := fun x => Heap.get_set_self (H := H) ht (x := x)
  have e0 : l.length ≠ 0 → outA l 1 = l := fun h => by
    unfold outA
    rw [ordA, insA]
    cases l with
    | nil => exact absurd rfl h
    | cons x l => simp [ordA, posA]
  simp -dsimp -implicitDefEqProofs (disch := omega) [go_sem, -List.getD_eq_getElem?_getD, ite_yes, ht]
  refine ALoop.intro (ι := Nat) (fun i => 1 ≤ i ∧ i ≤ max l.length 1) (fun i => [(0, .slice (some ⟨t, 0, none⟩) l.length c), (1, .int .i64 0), (2, .int .i64 l.length), (3, .func (.func 112) #[] #[]), (8, .int .i64 i)])
    (fun i => H.set t (some ⟨(if l.length = 0 then [] else outA l i).flatMap alE, true, e, 4⟩)) (fun i => l.length - i) 1 (by omega) ?_ ?_
  · refine weakS_set ht (alE_flat _) rfl ?_ (by simp -dsimp -implicitDefEqProofs (disch := omega) [go_sem, -List.getD_eq_getElem?_getD, ite_yes, ht])
    have : (if l.length = 0 then [] else outA l 1) = l := by
      by_cases h : l.length = 0
      · rw [if_pos h]; exact (List.eq_nil_of_length_eq_zero h).symm
      · rw [if_neg h]; exact e0 h
    rw [this]; exact (Heap.set_self hb).symm
  rintro i ⟨hi1, hi2⟩
  by_cases hlt : i < l.length
  rotate_left
  · have hlti : ¬ (i : Int) < (l.length : Int) := by omega
    have he : (if l.length = 0 then [] else outA l i) = sortA l := by
      by_cases h : l.length = 0
      · rw [if_pos h]; unfold sortA; rw [h]; rfl
      · rw [if_neg h]
        have : i = l.length := by omega
        subst this
        unfold outA sortA; rw [List.drop_length, List.append_nil]
    rw [he]
    simp -dsimp -implicitDefEqProofs (disch := omega) [go_sem, -List.getD_eq_getElem?_getD, ite_yes, hlti, hlt]
    exact fin_set ht (alE_flat (sortA l)) rfl rfl rfl rfl
  have hlti : (i : Int) < (l.length : Int) := by omega
  have hn0 : l.length ≠ 0 := by omega
  have hol := ordA_length l i
  simp only [hn0, if_false]
  simp -dsimp -implicitDefEqProofs (disch := omega) [go_sem, -List.getD_eq_getElem?_getD, ite_yes, hlti, hlt, ht]
  refine ALoop.intro (ι := Nat) (fun j => j ≤ i ∧ posA (ordA l i) (l.getD i alD) i = posA (ordA l i) (l.getD i alD) j) (fun j => [(0, .slice (some ⟨t, 0, none⟩) l.length c), (1, .int .i64 0), (2, .int .i64 l.length), (3, .func (.func 112) #[] #[]), (8, .int .i64 i), (9, .int .i64 j)])
    (fun j => H.set t (some ⟨(midA l i j).flatMap alE, true, e, 4⟩)) (fun j => j) i ⟨Nat.le_refl _, rfl⟩ ?_ ?_
  · exact weakS_set ht (alE_flat _) rfl (by rw [outA_mid hlt]) (by simp -dsimp -implicitDefEqProofs (disch := omega) [go_sem, -List.getD_eq_getElem?_getD, ite_yes, ht])
  rintro j ⟨hj, hpos⟩
  have hend : posA (ordA l i) (l.getD i alD) j = j → midA l i j = outA l (i + 1) := fun h => by rw [← midA_out, hpos, h]
  have hset : ∀ m : List Al, m = outA l (i + 1) → H.set t (some ⟨m.flatMap alE, true, e, 4⟩) = H.set t (some ⟨(outA l (i + 1)).flatMap alE, true, e, 4⟩) := fun m h => by rw [h]
  cases j with
  | zero =>
    have hm := hend rfl
    obtain ⟨M, hM⟩ : ∃ M, midA l i 0 = M := ⟨_, rfl⟩
    rw [hM] at hm ⊢
    simp -dsimp -implicitDefEqProofs (disch := omega) [go_sem, -List.getD_eq_getElem?_getD, ite_yes, ht]
    refine ADraw.quiet (by kernel_rfl) (by kernel_rfl) (by kernel_rfl) ?_
    simp -dsimp -implicitDefEqProofs (disch := omega) [go_sem, -List.getD_eq_getElem?_getD, ite_yes, ht]
    exact LoopEnd.of (i + 1) (by omega) (by omega) (weakS_set ht (alE_flat _) rfl (hset M hm) (by simp -dsimp -implicitDefEqProofs (disch := omega) [go_sem, -List.getD_eq_getElem?_getD, ite_yes, ht]))
  | succ j =>
  have hjl : j < (ordA l i).length := by omega
  have htl : ((ordA l i).take j).length = j := by rw [List.length_take]; omega
  obtain ⟨y, hy⟩ : ∃ y, (ordA l i)[j] = y := ⟨_, rfl⟩
  have hyd : (ordA l i).getD j alD = y := by rw [List.getD_eq_getElem?_getD, List.getElem?_eq_getElem hjl]; exact hy
  have hp : posA (ordA l i) (l.getD i alD) (j + 1) = if (l.getD i alD).2.2.1 < y.2.2.1 then posA (ordA l i) (l.getD i alD) j else j + 1 := by rw [posA, hyd]
  have eM : midA l i (j + 1) = (ordA l i).take j ++ y :: l.getD i alD :: ((ordA l i).drop (j + 1) ++ l.drop (i + 1)) := by
    unfold midA
    rw [List.take_succ_eq_append_getElem hjl, hy, List.append_assoc]; rfl
  have eM2 : midA l i j = (ordA l i).take j ++ l.getD i alD :: y :: ((ordA l i).drop (j + 1) ++ l.drop (i + 1)) := by
    unfold midA
    rw [List.drop_eq_getElem_cons hjl, hy, List.cons_append]
  have hlen : (midA l i (j + 1)).length = l.length := by
    rw [eM]; simp only [List.length_append, List.length_cons, List.length_drop, htl]; omega
  generalize l.getD i alD = x at hpos hp eM eM2 hend
  have hfl : ((midA l i (j + 1)).flatMap alE).length = l.length * 4 := by rw [alE_length, hlen]
  have ca : aCells (H.set t (some ⟨(midA l i (j + 1)).flatMap alE, true, e, 4⟩)) ⟨t, (j + 1) * 4, none⟩ 4 = some (alE x) := by
    have h9 := al_at ((ordA l i).take j ++ [y]) ((ordA l i).drop (j + 1) ++ l.drop (i + 1)) x
    rw [List.append_assoc, List.length_append, htl] at h9
    rw [aCells_eq, gs, aC1]
    simp only [hfl]
    rw [if_pos (by omega), eM]
    exact congrArg some h9
  have cb : aCells (H.set t (some ⟨(midA l i (j + 1)).flatMap alE, true, e, 4⟩)) ⟨t, j * 4, none⟩ 4 = some (alE y) := by
    have h9 := al_at ((ordA l i).take j) (x :: ((ordA l i).drop (j + 1) ++ l.drop (i + 1))) y
    rw [htl] at h9
    rw [aCells_eq, gs, aC1]
    simp only [hfl]
    rw [if_pos (by omega), eM]
    exact congrArg some h9
  obtain ⟨M1, hM1⟩ : ∃ M, (ordA l i).take j ++ y :: y :: ((ordA l i).drop (j + 1) ++ l.drop (i + 1)) = M := ⟨_, rfl⟩
  have s1 : ((midA l i (j + 1)).flatMap alE).take ((j + 1) * 4) ++ (alE y ++ ((midA l i (j + 1)).flatMap alE).drop ((j + 1) * 4 + 4)) = M1.flatMap alE := by
    have h9 := al_put ((ordA l i).take j ++ [y]) ((ordA l i).drop (j + 1) ++ l.drop (i + 1)) x y
    rw [List.append_assoc, List.length_append, htl, List.append_assoc] at h9
    rw [eM, ← hM1]
    exact h9.symm
  have s2 : (M1.flatMap alE).take (j * 4) ++ (alE x ++ (M1.flatMap alE).drop (j * 4 + 4)) = (midA l i j).flatMap alE := by
    have h9 := al_put ((ordA l i).take j) (y :: ((ordA l i).drop (j + 1) ++ l.drop (i + 1))) y x
    rw [htl] at h9
    rw [eM2, ← hM1]
    exact h9.symm
  have hfl2 : (M1.flatMap alE).length = l.length * 4 := by
    rw [← s1]
    simp only [List.length_append, List.length_take, List.length_drop, hfl, alE, List.length_cons, List.length_nil]
    omega
  have C := unCmp_A x y (roH (H.set t (some ⟨(midA l i (j + 1)).flatMap alE, true, e, 4⟩)))
  simp only [alE, List.cons_append, List.nil_append] at ca cb s1 s2
  obtain ⟨M, hM⟩ : ∃ M, midA l i (j + 1) = M := ⟨_, rfl⟩
  rw [hM] at hend hfl ca cb s1 C ⊢
  have hj0 : j < l.length := by omega
  have hj1 : j + 1 < l.length := by omega
  simp -dsimp -implicitDefEqProofs (disch := omega) [go_sem, -List.getD_eq_getElem?_getD, ite_yes, ht]
  refine ADraw.quiet (by kernel_rfl) (by kernel_rfl) (by kernel_rfl) ?_
  simp -dsimp -implicitDefEqProofs (disch := omega) [go_sem, -List.getD_eq_getElem?_getD, ite_yes, ht, hj0, hj1, ca, cb]
  refine ACallQ.of C rfl ?_
  by_cases hxy : x.2.2.1 < y.2.2.1
  · rw [if_pos hxy] at hp
    rw [hp] at hpos
    have hc : cmpI x.2.2.1 y.2.2.1 = -1 := if_pos hxy
    rw [hc]
    simp -dsimp -implicitDefEqProofs (disch := omega) [go_sem, -List.getD_eq_getElem?_getD, ite_yes, ht]
    refine ADraw.any [] (by kernel_rfl) (SubH.nil) ?_
    refine AAny.takes (fuel := 6) (by kernel_rfl) (by kernel_rfl) [0, 1, 2, 3, 4, 5, 6, 7, 8, 10, 11, 12] (by kernel_rfl) (by kernel_rfl) ?_
    simp -dsimp -implicitDefEqProofs (disch := omega) [go_sem, -List.getD_eq_getElem?_getD, ite_yes, ht, hj0, hj1, ca, cb, gs, hfl, hfl2, s1, s2, List.set_set]
    refine AAny.two 5 9 13 (by kernel_rfl) (by kernel_rfl) (by kernel_rfl) ?_ ?_
    · simp -dsimp -implicitDefEqProofs (disch := omega) [go_sem, -List.getD_eq_getElem?_getD, ite_yes, ht, hj0, hj1, ca, cb, gs, hfl, hfl2, s1, s2, List.set_set]
      first | refine AAt.of (SubH.nil) ?_ | (refine ⟨?_, AAt.of (SubH.nil) ?_⟩; · omega)
      refine AAny.one 4 13 (by kernel_rfl) (by kernel_rfl) (by kernel_rfl) ?_
      simp -dsimp -implicitDefEqProofs (disch := omega) [go_sem, -List.getD_eq_getElem?_getD, ite_yes, ht, hj0, hj1, ca, cb, gs, hfl, hfl2, s1, s2, List.set_set]
      first | refine AAt.of (SubH.nil) ?_ | (refine ⟨?_, AAt.of (SubH.nil) ?_⟩; · omega)
      refine AAny.takes (fuel := 3) (by kernel_rfl) (by kernel_rfl) [14] (by kernel_rfl) (by kernel_rfl) ?_
      simp -dsimp -implicitDefEqProofs (disch := omega) [go_sem, -List.getD_eq_getElem?_getD, ite_yes, ht, hj0, hj1, ca, cb, gs, hfl, hfl2, s1, s2, List.set_set]
      refine AAny.one 2 15 (by kernel_rfl) (by kernel_rfl) (by kernel_rfl) ?_
      simp -dsimp -implicitDefEqProofs (disch := omega) [go_sem, -List.getD_eq_getElem?_getD, ite_yes, ht, hj0, hj1, ca, cb, gs, hfl, hfl2, s1, s2, List.set_set]
      first | refine AAt.of (SubH.nil) ?_ | (refine ⟨?_, AAt.of (SubH.nil) ?_⟩; · omega)
      refine AAny.takes (fuel := 1) (by kernel_rfl) (by kernel_rfl) [16] (by kernel_rfl) (by kernel_rfl) ?_
      simp -dsimp -implicitDefEqProofs (disch := omega) [go_sem, -List.getD_eq_getElem?_getD, ite_yes, ht, hj0, hj1, ca, cb, gs, hfl, hfl2, s1, s2, List.set_set]
      refine AAny.one 0 17 (by kernel_rfl) (by kernel_rfl) (by kernel_rfl) ?_
      simp -dsimp -implicitDefEqProofs (disch := omega) [go_sem, -List.getD_eq_getElem?_getD, ite_yes, ht, hj0, hj1, ca, cb, gs, hfl, hfl2, s1, s2, List.set_set]
      first | refine AAt.of (SubH.nil) ?_ | (refine ⟨?_, AAt.of (SubH.nil) ?_⟩; · omega)
      refine AAny.done (by kernel_rfl) ?_
      simp -dsimp -implicitDefEqProofs (disch := omega) [go_sem, -List.getD_eq_getElem?_getD, ite_yes, ht, hj0, hj1, ca, cb, gs, hfl, hfl2, s1, s2, List.set_set]
      exact LoopEnd.of j ⟨by omega, hpos⟩ (by omega) (weakS_set (b := ⟨(midA l i j).flatMap alE, true, e, 4⟩) ht (alE_flat _) rfl (by simp [s1, s2]) (by simp -dsimp -implicitDefEqProofs (disch := omega) [go_sem, -List.getD_eq_getElem?_getD, ite_yes, ht]))
    · simp -dsimp -implicitDefEqProofs (disch := omega) [go_sem, -List.getD_eq_getElem?_getD, ite_yes, ht, hj0, hj1, ca, cb, gs, hfl, hfl2, s1, s2, List.set_set]
      first | refine AAt.of (SubH.nil) ?_ | (refine ⟨?_, AAt.of (SubH.nil) ?_⟩; · omega)
      refine AAny.one 4 9 (by kernel_rfl) (by kernel_rfl) (by kernel_rfl) ?_
      simp -dsimp -implicitDefEqProofs (disch := omega) [go_sem, -List.getD_eq_getElem?_getD, ite_yes, ht, hj0, hj1, ca, cb, gs, hfl, hfl2, s1, s2, List.set_set]
      first | refine AAt.of (SubH.nil) ?_ | (refine ⟨?_, AAt.of (SubH.nil) ?_⟩; · omega)
      refine AAny.takes (fuel := 3) (by kernel_rfl) (by kernel_rfl) [14] (by kernel_rfl) (by kernel_rfl) ?_
      simp -dsimp -implicitDefEqProofs (disch := omega) [go_sem, -List.getD_eq_getElem?_getD, ite_yes, ht, hj0, hj1, ca, cb, gs, hfl, hfl2, s1, s2, List.set_set]
      refine AAny.one 2 15 (by kernel_rfl) (by kernel_rfl) (by kernel_rfl) ?_
      simp -dsimp -implicitDefEqProofs (disch := omega) [go_sem, -List.getD_eq_getElem?_getD, ite_yes, ht, hj0, hj1, ca, cb, gs, hfl, hfl2, s1, s2, List.set_set]
      first | refine AAt.of (SubH.nil) ?_ | (refine ⟨?_, AAt.of (SubH.nil) ?_⟩; · omega)
      refine AAny.takes (fuel := 1) (by kernel_rfl) (by kernel_rfl) [16] (by kernel_rfl) (by kernel_rfl) ?_
      simp -dsimp -implicitDefEqProofs (disch := omega) [go_sem, -List.getD_eq_getElem?_getD, ite_yes, ht, hj0, hj1, ca, cb, gs, hfl, hfl2, s1, s2, List.set_set]
      refine AAny.one 0 17 (by kernel_rfl) (by kernel_rfl) (by kernel_rfl) ?_
      simp -dsimp -implicitDefEqProofs (disch := omega) [go_sem, -List.getD_eq_getElem?_getD, ite_yes, ht, hj0, hj1, ca, cb, gs, hfl, hfl2, s1, s2, List.set_set]
      first | refine AAt.of (SubH.nil) ?_ | (refine ⟨?_, AAt.of (SubH.nil) ?_⟩; · omega)
      refine AAny.done (by kernel_rfl) ?_
      simp -dsimp -implicitDefEqProofs (disch := omega) [go_sem, -List.getD_eq_getElem?_getD, ite_yes, ht, hj0, hj1, ca, cb, gs, hfl, hfl2, s1, s2, List.set_set]
      exact LoopEnd.of j ⟨by omega, hpos⟩ (by omega) (weakS_set (b := ⟨(midA l i j).flatMap alE, true, e, 4⟩) ht (alE_flat _) rfl (by simp [s1, s2]) (by simp -dsimp -implicitDefEqProofs (disch := omega) [go_sem, -List.getD_eq_getElem?_getD, ite_yes, ht]))
  · rw [if_neg hxy] at hp
    have hc : ¬ cmpI x.2.2.1 y.2.2.1 < 0 := by unfold cmpI; rw [if_neg hxy]; split <;> omega
    simp -dsimp -implicitDefEqProofs (disch := omega) [go_sem, -List.getD_eq_getElem?_getD, ite_yes, ht, hc]
    exact LoopEnd.of (i + 1) (by omega) (by omega) (weakS_set ht (alE_flat _) rfl (hset M (hend hp)) (by simp -dsimp -implicitDefEqProofs (disch := omega) [go_sem, -List.getD_eq_getElem?_getD, ite_yes, ht]))
end Go.Proofs.YthnnbgggfpempaaDoor
/- UnseenNodes: both sides, and the law. -/
namespace Go.Proofs.YthnnbgggfpempaaDoor
open Go.Am
set_option linter.unusedVariables false
set_option linter.unusedSimpArgs false
set_option maxRecDepth 100000
set_option maxHeartbeats 4000000

theorem stableUn_A (l : List Al) (hl8 : l.length ≤ 8) (c e : Nat) (H : Heap) (t : Nat) (hb : H.get t = some ⟨l.flatMap alE, true, e, 4⟩) :
    AFunC Tryd.prog 143 [.slice (some ⟨t, 0, none⟩) l.length c, .int .i64 l.length, .func (.func 112) #[] #[]] H (.tuple #[]) (H.set t (some ⟨(sortA l).flatMap alE, true, e, 4⟩)) := by
  refine AFunC.of_body Tryd.func143 (by kernel_rfl) rfl (by kernel_rfl) (by simp [Tryd.ntmps143]) ?_
  have ht := Heap.get_lt hb
  have h1 : ¬ (20 : Int) ≤ (l.length : Int) := by omega
  have h2 : ¬ (20 : Int) < (l.length : Int) := by omega
  have h1n : ¬ 20 ≤ l.length := by omega
  have h2n : ¬ 20 < l.length := by omega
  simp -dsimp -implicitDefEqProofs (disch := omega) [go_sem, -List.getD_eq_getElem?_getD, ite_yes, ht]
  refine ALoop.intro (ι := Unit) (fun _ => True) (fun _ => [(0, .slice (some ⟨t, 0, none⟩) l.length c), (1, .int .i64 l.length), (2, .func (.func 112) #[] #[]), (6, .int .i64 20), (7, .int .i64 0), (8, .int .i64 20)]) (fun _ => H) (fun _ => 0) () trivial ?_ ?_
  · exact weakS_same (by simp -dsimp -implicitDefEqProofs (disch := omega) [go_sem, -List.getD_eq_getElem?_getD, ite_yes, ht])
  intro _ _
  simp -dsimp -implicitDefEqProofs (disch := omega) [go_sem, -List.getD_eq_getElem?_getD, ite_yes, h1, h1n, ht]
  refine ACall.of (insUn_A l hl8 c e H t hb) ?_
  simp -dsimp -implicitDefEqProofs (disch := omega) [go_sem, -List.getD_eq_getElem?_getD, ite_yes, ht]
  refine ALoop.intro (ι := Unit) (fun _ => True) (fun _ => [(1, .int .i64 l.length), (6, .int .i64 20)]) (fun _ => H.set t (some ⟨(sortA l).flatMap alE, true, e, 4⟩)) (fun _ => 0) () trivial ?_ ?_
  · exact weakS_set ht (alE_flat _) rfl rfl (by simp -dsimp -implicitDefEqProofs (disch := omega) [go_sem, -List.getD_eq_getElem?_getD, ite_yes, ht])
  intro _ _
  simp -dsimp -implicitDefEqProofs (disch := omega) [go_sem, -List.getD_eq_getElem?_getD, ite_yes, h2, h2n]
  exact fin_set ht (alE_flat (sortA l)) rfl rfl rfl rfl
theorem sortUn_A (l : List Al) (hl8 : l.length ≤ 8) (c e : Nat) (H : Heap) (t : Nat) (hb : H.get t = some ⟨l.flatMap alE, true, e, 4⟩) :
    AFunC Tryd.prog 111 [.slice (some ⟨t, 0, none⟩) l.length c, .func (.func 112) #[] #[]] H (.tuple #[]) (H.set t (some ⟨(sortA l).flatMap alE, true, e, 4⟩)) := by
  refine AFunC.of_body Tryd.func111 (by kernel_rfl) rfl (by kernel_rfl) (by simp [Tryd.ntmps111]) ?_
  have ht := Heap.get_lt hb
  simp -dsimp -implicitDefEqProofs (disch := omega) [go_sem, -List.getD_eq_getElem?_getD, ite_yes, ht]
  refine ACall.of (stableUn_A l hl8 c e H t hb) ?_
  simp -dsimp -implicitDefEqProofs (disch := omega) [go_sem, -List.getD_eq_getElem?_getD, ite_yes]
  exact fin_set ht (alE_flat (sortA l)) rfl rfl rfl rfl
theorem sortA_length (l : List Al) : (sortA l).length = l.length := ordA_length _ _
/-- the nodes of the first k -/
def ndTo (L : List Al) (k : Nat) : List Int := (L.take k).map (·.1)
theorem ndTo_next {L : List Al} {k : Nat} (h : k < L.length) : ndTo L (k + 1) = ndTo L k ++ [(L.getD k alD).1] := by
  unfold ndTo
  rw [List.take_succ_eq_append_getElem h, List.map_append, List.getD_eq_getElem?_getD, List.getElem?_eq_getElem h]; rfl
theorem ndTo_length {L : List Al} {k : Nat} (h : k ≤ L.length) : (ndTo L k).length = k := by unfold ndTo; rw [List.length_map, List.length_take]; omega
theorem unN_length (l : List Al) : (unN l).length ≤ l.length := by
  unfold unN
  rw [List.length_map, sortA_length]
  exact unTo_length _ _
theorem iUnseen_bad (l : List Al) (hl : l.length ≤ 1048577) (c : Nat) (H : Heap) (t : Nat) (hS : Sl alE H t l) (hg : goodA l = false) :
    AFunC Tryd.prog 50 [.slice (some ⟨t, 0, none⟩) l.length c] H (.tuple #[.slice none 0 0, .bool false]) H := by
  refine AFunC.of_body Tryd.func50 (by kernel_rfl) rfl (by kernel_rfl) (by simp [Tryd.ntmps50]) ?_
  have ht := hS.lt
  simp -dsimp -implicitDefEqProofs (disch := omega) [go_sem, -List.getD_eq_getElem?_getD, ite_yes]
  refine ACall.of (areAlarms_A l hl c _ t hS) ?_
  simp -dsimp -implicitDefEqProofs (disch := omega) [go_sem, -List.getD_eq_getElem?_getD, ite_yes, hg]
  exact fin_flat0 rfl rfl
theorem iUnseen_good (l : List Al) (hl : l.length ≤ 1048577) (c : Nat) (H : Heap) (t : Nat) (hS : Sl alE H t l) (hg : goodA l = true) :
    AFunC Tryd.prog 50 [.slice (some ⟨t, 0, none⟩) l.length c] H (.tuple #[.slice (some ⟨H.length, 0, none⟩) (unN l).length (unN l).length, .bool true]) (H ++ [some ⟨(unN l).flatMap nmE, true, 3, 1⟩]) := by
  refine AFunC.of_body Tryd.func50 (by kernel_rfl) rfl (by kernel_rfl) (by simp [Tryd.ntmps50]) ?_
  have ht := hS.lt
  have l8 := goodA_small hg
  have cs := fun k hk => hS.cells (s := 4) (fun _ => rfl) alD k hk
  simp only [alE] at cs
  simp -dsimp -implicitDefEqProofs (disch := omega) [go_sem, -List.getD_eq_getElem?_getD, ite_yes]
  refine ACall.of (areAlarms_A l hl c _ t hS) ?_
  simp -dsimp -implicitDefEqProofs (disch := omega) [go_sem, -List.getD_eq_getElem?_getD, ite_yes, hg]
  refine ALoop.intro (ι := Nat) (fun k => k ≤ l.length) (fun k => [(4, .slice (some ⟨H.length, 0, none⟩) (unTo l k).length (unTo l k).length), (5, .slice (some ⟨H.length + 1, 0, none⟩) 0 0), (15, .slice (some ⟨t, 0, none⟩) l.length c), (16, .int .i64 l.length), (17, .int .i64 k)])
    (fun k => H ++ [some ⟨(unTo l k).flatMap alE, true, 67, 4⟩, some ⟨[], true, 3, 1⟩]) (fun k => l.length - k) 0 (by omega) ?_ ?_
  · refine weakS_mk [some 0, some 1] rfl ?_ (by simp -dsimp -implicitDefEqProofs (disch := omega) [go_sem, -List.getD_eq_getElem?_getD, ite_yes, ht, unTo])
    simp -dsimp -implicitDefEqProofs (disch := omega) [go_sem, -List.getD_eq_getElem?_getD, ite_yes, unTo]
    exact .inl ⟨rfl, rfl⟩
  · intro k hk
    by_cases hlt : k < l.length
    · have un := unTo_next hlt
      have ul := unTo_length l k
      have uf := alE_length (unTo l k)
      have ck := cs k hlt
      generalize hx : l.getD k alD = x at un ck
      by_cases hs : x.2.2.2 = true
      · rw [if_pos hs] at un
        simp -dsimp -implicitDefEqProofs (disch := omega) [go_sem, -List.getD_eq_getElem?_getD, ite_yes, hlt, ck, ht, hs]
        refine LoopEnd.of (k + 1) (by omega) (by omega) (weakS_mk [some 0, some 1] rfl ?_ (by simp -dsimp -implicitDefEqProofs (disch := omega) [go_sem, -List.getD_eq_getElem?_getD, ite_yes, ht, un]))
        simp -dsimp -implicitDefEqProofs (disch := omega) [go_sem, -List.getD_eq_getElem?_getD, ite_yes, un]
        exact ⟨.inl ⟨rfl, alE_flat _⟩, .inl ⟨rfl, rfl⟩⟩
      · rw [if_neg hs] at un
        have hs' : x.2.2.2 = false := by simpa using hs
        simp -dsimp -implicitDefEqProofs (disch := omega) [go_sem, -List.getD_eq_getElem?_getD, ite_yes, hlt, ck, ht, hs', uf]
        have unl : (unTo l (k + 1)).length = (unTo l k).length + 1 := by rw [un]; simp
        refine ⟨by omega, LoopEnd.of (k + 1) (by omega) (by omega) (weakS_mk [some 4, some 1] rfl ?_ (by simp -dsimp -implicitDefEqProofs (disch := omega) [go_sem, -List.getD_eq_getElem?_getD, ite_yes, ht, unl]))⟩
        simp -dsimp -implicitDefEqProofs (disch := omega) [go_sem, -List.getD_eq_getElem?_getD, ite_yes, un]
        exact ⟨.inl ⟨by simp [alE, hs'], by simp [alE, flat]⟩, .inl ⟨rfl, rfl⟩⟩
    · simp -dsimp -implicitDefEqProofs (disch := omega) [go_sem, -List.getD_eq_getElem?_getD, ite_yes, hlt]
      obtain rfl : k = l.length := by omega
      generalize hu : unTo l l.length = u
      have ul := unTo_length l l.length
      rw [hu] at ul
      refine ACall.of (sortUn_A u (by omega) _ _ _ _ (by rw [Heap.get_len]; rfl)) ?_
      have sl := sortA_length u
      have hn : unN l = ndTo (sortA u) (sortA u).length := by unfold unN ndTo; rw [hu, List.take_of_length_le (Nat.le_refl _)]
      rw [hn]
      generalize sortA u = S at sl
      simp -dsimp -implicitDefEqProofs (disch := omega) [go_sem, -List.getD_eq_getElem?_getD, ite_yes, ht]
      refine ALoop.intro (ι := Nat) (fun k => k ≤ S.length) (fun k => [(5, .slice (some ⟨H.length + 1, 0, none⟩) k k), (31, .slice (some ⟨H.length, 0, none⟩) S.length S.length), (32, .int .i64 S.length), (33, .int .i64 k)])
        (fun k => H ++ [some ⟨S.flatMap alE, true, 67, 4⟩, some ⟨(ndTo S k).flatMap nmE, true, 3, 1⟩]) (fun k => S.length - k) 0 (by omega) ?_ ?_
      · refine weakS_mk [some 0, some 1] rfl ?_ (by simp -dsimp -implicitDefEqProofs (disch := omega) [go_sem, -List.getD_eq_getElem?_getD, ite_yes, ht, sl])
        simp -dsimp -implicitDefEqProofs (disch := omega) [go_sem, -List.getD_eq_getElem?_getD, ite_yes, ndTo]
        exact ⟨.inl ⟨rfl, alE_flat _⟩, .inl ⟨rfl, rfl⟩⟩
      · intro k hk
        have nl := ndTo_length hk
        have nf : ((ndTo S k).flatMap nmE).length = k := by rw [nmE_length, nl]; omega
        have sf := alE_length S
        by_cases hlt : k < S.length
        · have nx := ndTo_next hlt
          have ck := flatMap_cells alE 4 (fun _ => rfl) alD S k hlt
          have k4 : k * 4 + 4 ≤ S.length * 4 := by omega
          generalize S.getD k alD = x at nx ck
          simp only [alE] at ck
          simp -dsimp -implicitDefEqProofs (disch := omega) [go_sem, -List.getD_eq_getElem?_getD, ite_yes, hlt, ck, ht, nf, sf, k4]
          refine ⟨by omega, LoopEnd.of (k + 1) (by omega) (by omega) (weakS_mk [some 0, some 4] rfl ?_ (by simp -dsimp -implicitDefEqProofs (disch := omega) [go_sem, -List.getD_eq_getElem?_getD, ite_yes, ht]))⟩
          simp -dsimp -implicitDefEqProofs (disch := omega) [go_sem, -List.getD_eq_getElem?_getD, ite_yes, nx]
          exact ⟨.inl ⟨rfl, alE_flat _⟩, .inl ⟨by simp [nmE], by simp [nmE, flat]⟩⟩
        · simp -dsimp -implicitDefEqProofs (disch := omega) [go_sem, -List.getD_eq_getElem?_getD, ite_yes, hlt]
          obtain rfl : k = S.length := by omega
          rw [show ((ndTo S S.length).length = S.length) from nl]
          refine fin_list [some 1] rfl ?_ (by simp -dsimp -implicitDefEqProofs (disch := omega) [go_sem, -List.getD_eq_getElem?_getD, ite_yes, ht])
          simp -dsimp -implicitDefEqProofs (disch := omega) [go_sem, -List.getD_eq_getElem?_getD, ite_yes]
          exact .inl ⟨rfl, nmE_flat _⟩
theorem un_take (L : List Int) (k : Nat) : List.take k (L.flatMap nmE) = (L.take k).flatMap nmE := by
  have e : ∀ M : List Int, M.flatMap nmE = M.map (Value.int .i64) := fun M => by
    induction M with
    | nil => rfl
    | cons x M ih => rw [List.flatMap_cons, ih]; rfl
  rw [e, e, List.map_take]
theorem un_drop (L : List Int) (k : Nat) : List.drop k (L.flatMap nmE) = (L.drop k).flatMap nmE := by
  have e : ∀ M : List Int, M.flatMap nmE = M.map (Value.int .i64) := fun M => by
    induction M with
    | nil => rfl
    | cons x M ih => rw [List.flatMap_cons, ih]; rfl
  rw [e, e, List.map_drop]
/-- a number put among some -/
theorem un_ins (f : Al → Int) (O : List Al) (x : Al) {k : Nat} (h : posA O x O.length = k) : ((insA O x).map f).flatMap nmE = ((O.map f).take k).flatMap nmE ++ Value.int .i64 (f x) :: ((O.map f).drop k).flatMap nmE := by
  rw [insA, h, List.map_append, List.map_cons, List.flatMap_append, List.flatMap_cons, List.map_take, List.map_drop]; rfl
theorem sUnseen_bad (l : List Al) (hl : l.length ≤ 1048577) (c : Nat) (H : Heap) (t : Nat) (hS : Sl alE H t l) (hg : goodA l = false) :
    AFunC Tryd.prog 51 [.slice (some ⟨t, 0, none⟩) l.length c] H (.tuple #[.slice (some ⟨H.length, 0, none⟩) 0 0, .bool false]) (H ++ [some ⟨[], true, 3, 1⟩]) := by
  refine AFunC.of_body Tryd.func51 (by kernel_rfl) rfl (by kernel_rfl) (by simp [Tryd.ntmps51]) ?_
  have ht := hS.lt
  simp -dsimp -implicitDefEqProofs (disch := omega) [go_sem, -List.getD_eq_getElem?_getD, ite_yes]
  refine ACall.of (l21Alarms_A l hl c _ t hS.app) ?_
  simp -dsimp -implicitDefEqProofs (disch := omega) [go_sem, -List.getD_eq_getElem?_getD, ite_yes, hg]
  refine fin_list [some 0] rfl ?_ (by simp -dsimp -implicitDefEqProofs (disch := omega) [go_sem, -List.getD_eq_getElem?_getD, ite_yes, ht])
  simp -dsimp -implicitDefEqProofs (disch := omega) [go_sem, -List.getD_eq_getElem?_getD, ite_yes]
  exact .inl ⟨rfl, rfl⟩
theorem sUnseen_good (l : List Al) (hl : l.length ≤ 1048577) (c : Nat) (H : Heap) (t : Nat) (hS : Sl alE H t l) (hg : goodA l = true) :
    AFunC Tryd.prog 51 [.slice (some ⟨t, 0, none⟩) l.length c] H (.tuple #[.slice (some ⟨H.length, 0, none⟩) (unN l).length 0, .bool true]) (H ++ [some ⟨(unN l).flatMap nmE, true, 3, 1⟩]) := by
  refine AFunC.of_body Tryd.func51 (by kernel_rfl) rfl (by kernel_rfl) (by simp [Tryd.ntmps51]) ?_
  have ht := hS.lt
  have l8 := goodA_small hg
  have cs := fun k hk => hS.cells (s := 4) (fun _ => rfl) alD k hk
  have c3 := fun k hk => hS.cell (s := 4) (fun _ => rfl) alD k 3 hk (by omega)
  have c2 := fun k hk => hS.cell (s := 4) (fun _ => rfl) alD k 2 hk (by omega)
  have c1 := fun k hk => hS.cell (s := 4) (fun _ => rfl) alD k 0 hk (by omega)
  simp only [alE, Nat.add_zero] at c1 c2 c3
  simp -dsimp -implicitDefEqProofs (disch := omega) [go_sem, -List.getD_eq_getElem?_getD, ite_yes]
  refine ACall.of (l21Alarms_A l hl c _ t hS.app) ?_
  simp -dsimp -implicitDefEqProofs (disch := omega) [go_sem, -List.getD_eq_getElem?_getD, ite_yes, hg]
  refine ALoop.intro (ι := Nat) (fun i => i ≤ l.length) (fun i => [(0, .slice (some ⟨t, 0, none⟩) l.length c), (4, .slice (some ⟨H.length, 0, none⟩) (unTo l i).length 0), (5, .slice (some ⟨H.length + 1, 0, none⟩) (unTo l i).length 0), (6, .int .i64 i)])
    (fun i => H ++ [some ⟨((sortA (unTo l i)).map (·.1)).flatMap nmE, true, 3, 1⟩, some ⟨((sortA (unTo l i)).map (·.2.2.1)).flatMap nmE, true, 3, 1⟩]) (fun i => l.length - i) 0 (by omega) ?_ ?_
  · refine weakS_mk [some 0, some 1] rfl ?_ (by simp -dsimp -implicitDefEqProofs (disch := omega) [go_sem, -List.getD_eq_getElem?_getD, ite_yes, ht, unTo])
    simp -dsimp -implicitDefEqProofs (disch := omega) [go_sem, -List.getD_eq_getElem?_getD, ite_yes, unTo, sortA, ordA]
    exact .inl ⟨rfl, rfl⟩
  · intro i hi
    have ul := unTo_length l i
    have ol := sortA_length (unTo l i)
    by_cases hlt : i < l.length
    · have un := unTo_next hlt
      have k3 := c3 i hlt
      have k2 := c2 i hlt
      have k1 := c1 i hlt
      generalize l.getD i alD = x at un k1 k2 k3
      by_cases hs : x.2.2.2 = true
      · rw [if_pos hs] at un
        simp -dsimp -implicitDefEqProofs (disch := omega) [go_sem, -List.getD_eq_getElem?_getD, ite_yes, hlt, k3, ht, hs]
        refine LoopEnd.of (i + 1) (by omega) (by omega) (weakS_mk [some 0, some 1] rfl ?_ (by simp -dsimp -implicitDefEqProofs (disch := omega) [go_sem, -List.getD_eq_getElem?_getD, ite_yes, ht, un]))
        simp -dsimp -implicitDefEqProofs (disch := omega) [go_sem, -List.getD_eq_getElem?_getD, ite_yes, un]
        exact ⟨.inl ⟨rfl, nmE_flat _⟩, .inl ⟨rfl, nmE_flat _⟩⟩
      · rw [if_neg hs] at un
        have hs' : x.2.2.2 = false := by simpa using hs
        have us := sortA_snoc (unTo l i) x
        have unl : (unTo l (i + 1)).length = (unTo l i).length + 1 := by rw [un]; simp
        rw [← un] at us
        generalize hO : sortA (unTo l i) = O at us ol ⊢
        generalize hn : (unTo l i).length = n at ul ol unl ⊢
        simp -dsimp -implicitDefEqProofs (disch := omega) [go_sem, -List.getD_eq_getElem?_getD, ite_yes, hlt, k3, ht, hs']
        refine ALoop.intro (ι := Nat) (fun k => k ≤ n ∧ posA O x n = posA O x k) (fun k => [(0, .slice (some ⟨t, 0, none⟩) l.length c), (4, .slice (some ⟨H.length, 0, none⟩) n 0), (5, .slice (some ⟨H.length + 1, 0, none⟩) n 0), (6, .int .i64 i), (7, .int .i64 k)])
          (fun k => H ++ [some ⟨(O.map (·.1)).flatMap nmE, true, 3, 1⟩, some ⟨(O.map (·.2.2.1)).flatMap nmE, true, 3, 1⟩]) (fun k => k) n ⟨Nat.le_refl _, rfl⟩ ?_ ?_
        · refine weakS_mk [some 0, some 1] rfl ?_ (by simp -dsimp -implicitDefEqProofs (disch := omega) [go_sem, -List.getD_eq_getElem?_getD, ite_yes, ht])
          simp -dsimp -implicitDefEqProofs (disch := omega) [go_sem, -List.getD_eq_getElem?_getD, ite_yes]
          exact ⟨.inl ⟨rfl, nmE_flat _⟩, .inl ⟨rfl, nmE_flat _⟩⟩
        rintro k ⟨hk, hpos⟩
        have hins : ∀ (f : Al → Int) (k : Nat), posA O x n = k → ((insA O x).map f).flatMap nmE = ((O.map f).take k).flatMap nmE ++ Value.int .i64 (f x) :: ((O.map f).drop k).flatMap nmE := fun f k h => un_ins f O x (by rw [ol]; exact h)
        have nl : (O.map (·.1)).length = n := by rw [List.length_map, ol]
        have tl : (O.map (·.2.2.1)).length = n := by rw [List.length_map, ol]
        have nl' : ((insA O x).map (·.1)).length = n + 1 := by rw [List.length_map, insA_length, ol]
        have tk : ∀ k, k < n → (O.map (·.2.2.1)).getD k 0 = (O.getD k alD).2.2.1 := fun k h => by
          rw [List.getD_eq_getElem?_getD, List.getElem?_map, List.getD_eq_getElem?_getD, List.getElem?_eq_getElem (by omega)]; rfl
        obtain ⟨N, hNe⟩ : ∃ N, O.map (·.1) = N := ⟨_, rfl⟩
        obtain ⟨T, hTe⟩ : ∃ T, O.map (·.2.2.1) = T := ⟨_, rfl⟩
        obtain ⟨N', hN'e⟩ : ∃ N', (insA O x).map (·.1) = N' := ⟨_, rfl⟩
        obtain ⟨T', hT'e⟩ : ∃ T', (insA O x).map (·.2.2.1) = T' := ⟨_, rfl⟩
        have nf : (N.flatMap nmE).length = n := by rw [nmE_length, ← hNe, nl]; omega
        have tf : (T.flatMap nmE).length = n := by rw [nmE_length, ← hTe, tl]; omega
        rw [hNe] at nl
        rw [hTe] at tl tk
        rw [hN'e] at nl'
        have hi1 := hins (·.1)
        have hi2 := hins (·.2.2.1)
        rw [hNe, hN'e] at hi1
        rw [hTe, hT'e] at hi2
        rw [hNe, hTe]
        cases k with
        | zero =>
          simp -dsimp -implicitDefEqProofs (disch := omega) [go_sem, -List.getD_eq_getElem?_getD, ite_yes, ht]
          refine ADraw.quiet (by kernel_rfl) (by kernel_rfl) (by kernel_rfl) ?_
          have n1 := un_take N (0)
          have n2 := un_drop N (0)
          have n3 : (List.flatMap nmE (List.take (0) N)).length = 0 := by rw [nmE_length, List.length_take]; omega
          have n4 : (List.flatMap nmE (List.drop (0) N)).length = n - (0) := by rw [nmE_length, List.length_drop]; omega
          have n5 : List.take (n - (0)) (List.flatMap nmE (List.drop (0) N)) = List.flatMap nmE (List.drop (0) N) := List.take_of_length_le (by omega)
          have m1 := un_take T (0)
          have m2 := un_drop T (0)
          have m3 : (List.flatMap nmE (List.take (0) T)).length = 0 := by rw [nmE_length, List.length_take]; omega
          have m4 : (List.flatMap nmE (List.drop (0) T)).length = n - (0) := by rw [nmE_length, List.length_drop]; omega
          have m5 : List.take (n - (0)) (List.flatMap nmE (List.drop (0) T)) = List.flatMap nmE (List.drop (0) T) := List.take_of_length_le (by omega)
          have e4 : (0) + 1 + (n - (0)) = n + 1 := by omega
          have hN : N'.flatMap nmE = (N.take (0)).flatMap nmE ++ Value.int .i64 x.1 :: (N.drop (0)).flatMap nmE := hi1 0 hpos
          have hT : T'.flatMap nmE = (T.take (0)).flatMap nmE ++ Value.int .i64 x.2.2.1 :: (T.drop (0)).flatMap nmE := hi2 0 hpos
          try simp only [List.drop_zero, List.take_zero, List.flatMap_nil, Nat.sub_zero, List.nil_append, Nat.zero_add] at n1 n2 n3 n4 n5 m1 m2 m3 m4 m5 e4 hN hT
          simp -dsimp -implicitDefEqProofs (disch := omega) [go_sem, -List.getD_eq_getElem?_getD, ite_yes, ht, hlt, nf, tf, n1, n2, n3, n4, n5, m1, m2, m3, m4, m5, k1, k2]
          refine ADraw.mid [(0, .slice (some ⟨t, 0, none⟩) l.length c), (4, .slice (some ⟨H.length, 0, none⟩) (n + 1) 0), (5, .slice (some ⟨H.length + 1, 0, none⟩) n 0), (6, .int .i64 i), (7, .int .i64 (0 : Nat))] (H ++ [some ⟨N'.flatMap nmE, true, 3, 1⟩, some ⟨T.flatMap nmE, true, 3, 1⟩]) ?_ ?_
          · skip
            refine ADraw.any (H ++ [some ⟨N.flatMap nmE, true, 3, 1⟩, some ⟨T.flatMap nmE, true, 3, 1⟩]) (by kernel_rfl) (by first | exact SubH.refl | exact SubH.app | exact SubH.both (by simp [subL])) ?_
            refine AAny.takes (fuel := 6) (by kernel_rfl) (by kernel_rfl) [1, 2, 3, 5, 6, 7, 8, 9, 12, 13, 14] (by kernel_rfl) (by kernel_rfl) ?_
            simp -dsimp -implicitDefEqProofs (disch := omega) [go_sem, -List.getD_eq_getElem?_getD, ite_yes, ht, hlt, nf, tf, n1, n2, n3, n4, n5, m1, m2, m3, m4, m5, k1, k2]
            refine AAny.two 5 0 10 (by kernel_rfl) (by kernel_rfl) (by kernel_rfl) ?_ ?_
            · simp -dsimp -implicitDefEqProofs (disch := omega) [go_sem, -List.getD_eq_getElem?_getD, ite_yes, ht, hlt, nf, tf, n1, n2, n3, n4, n5, m1, m2, m3, m4, m5, k1, k2]
              first | refine AAt.of (by first | exact SubH.refl | exact SubH.app | exact SubH.both (by simp [subL])) ?_ | (refine ⟨?_, AAt.of (by first | exact SubH.refl | exact SubH.app | exact SubH.both (by simp [subL])) ?_⟩; · omega)
              refine AAny.two 4 4 10 (by kernel_rfl) (by kernel_rfl) (by kernel_rfl) ?_ ?_
              · simp -dsimp -implicitDefEqProofs (disch := omega) [go_sem, -List.getD_eq_getElem?_getD, ite_yes, ht, hlt, nf, tf, n1, n2, n3, n4, n5, m1, m2, m3, m4, m5, k1, k2]
                first | refine AAt.of (by first | exact SubH.refl | exact SubH.app | exact SubH.both (by simp [subL])) ?_ | (refine ⟨?_, AAt.of (by first | exact SubH.refl | exact SubH.app | exact SubH.both (by simp [subL])) ?_⟩; · omega)
                refine AAny.one 3 10 (by kernel_rfl) (by kernel_rfl) (by kernel_rfl) ?_
                simp -dsimp -implicitDefEqProofs (disch := omega) [go_sem, -List.getD_eq_getElem?_getD, ite_yes, ht, hlt, nf, tf, n1, n2, n3, n4, n5, m1, m2, m3, m4, m5, k1, k2]
                first | refine AAt.of (by first | exact SubH.refl | exact SubH.app | exact SubH.both (by simp [subL])) ?_ | (refine ⟨?_, AAt.of (by first | exact SubH.refl | exact SubH.app | exact SubH.both (by simp [subL])) ?_⟩; · omega)
                refine AAny.one 2 11 (by kernel_rfl) (by kernel_rfl) (by kernel_rfl) ?_
                simp -dsimp -implicitDefEqProofs (disch := omega) [go_sem, -List.getD_eq_getElem?_getD, ite_yes, ht, hlt, nf, tf, n1, n2, n3, n4, n5, m1, m2, m3, m4, m5, k1, k2]
                first | refine AAt.of (by first | exact SubH.refl | exact SubH.app | exact SubH.both (by simp [subL])) ?_ | (refine ⟨?_, AAt.of (by first | exact SubH.refl | exact SubH.app | exact SubH.both (by simp [subL])) ?_⟩; · omega)
                refine AAny.one 1 15 (by kernel_rfl) (by kernel_rfl) (by kernel_rfl) ?_
                simp -dsimp -implicitDefEqProofs (disch := omega) [go_sem, -List.getD_eq_getElem?_getD, ite_yes, ht, hlt, nf, tf, n1, n2, n3, n4, n5, m1, m2, m3, m4, m5, k1, k2]
                first | refine AAt.of (by first | exact SubH.refl | exact SubH.app | exact SubH.both (by simp [subL])) ?_ | (refine ⟨?_, AAt.of (by first | exact SubH.refl | exact SubH.app | exact SubH.both (by simp [subL])) ?_⟩; · omega)
                refine AAny.takes (fuel := 0) (by kernel_rfl) (by kernel_rfl) [16] (by kernel_rfl) (by kernel_rfl) ?_
                simp -dsimp -implicitDefEqProofs (disch := omega) [go_sem, -List.getD_eq_getElem?_getD, ite_yes, ht, hlt, nf, tf, n1, n2, n3, n4, n5, m1, m2, m3, m4, m5, k1, k2]
                refine AAny.done (by kernel_rfl) ?_
                simp -dsimp -implicitDefEqProofs (disch := omega) [go_sem, -List.getD_eq_getElem?_getD, ite_yes, ht, hlt, nf, tf, n1, n2, n3, n4, n5, m1, m2, m3, m4, m5, k1, k2]
                refine ⟨weakS_mk [some 6, some 1] rfl ?_ (by simp -dsimp -implicitDefEqProofs (disch := omega) [go_sem, -List.getD_eq_getElem?_getD, ite_yes, ht, e4])⟩
                simp -dsimp -implicitDefEqProofs (disch := omega) [go_sem, -List.getD_eq_getElem?_getD, ite_yes, ht, hlt, nf, tf, n1, n2, n3, n4, n5, m1, m2, m3, m4, m5, k1, k2]
                exact ⟨.inl ⟨hN, hN ▸ nmE_flat N'⟩, .inl ⟨rfl, nmE_flat _⟩⟩
              · simp -dsimp -implicitDefEqProofs (disch := omega) [go_sem, -List.getD_eq_getElem?_getD, ite_yes, ht, hlt, nf, tf, n1, n2, n3, n4, n5, m1, m2, m3, m4, m5, k1, k2]
                first | refine AAt.of (by first | exact SubH.refl | exact SubH.app | exact SubH.both (by simp [subL])) ?_ | (refine ⟨?_, AAt.of (by first | exact SubH.refl | exact SubH.app | exact SubH.both (by simp [subL])) ?_⟩; · omega)
                refine AAny.one 3 4 (by kernel_rfl) (by kernel_rfl) (by kernel_rfl) ?_
                simp -dsimp -implicitDefEqProofs (disch := omega) [go_sem, -List.getD_eq_getElem?_getD, ite_yes, ht, hlt, nf, tf, n1, n2, n3, n4, n5, m1, m2, m3, m4, m5, k1, k2]
                first | refine AAt.of (by first | exact SubH.refl | exact SubH.app | exact SubH.both (by simp [subL])) ?_ | (refine ⟨?_, AAt.of (by first | exact SubH.refl | exact SubH.app | exact SubH.both (by simp [subL])) ?_⟩; · omega)
                refine AAny.one 2 11 (by kernel_rfl) (by kernel_rfl) (by kernel_rfl) ?_
                simp -dsimp -implicitDefEqProofs (disch := omega) [go_sem, -List.getD_eq_getElem?_getD, ite_yes, ht, hlt, nf, tf, n1, n2, n3, n4, n5, m1, m2, m3, m4, m5, k1, k2]
                first | refine AAt.of (by first | exact SubH.refl | exact SubH.app | exact SubH.both (by simp [subL])) ?_ | (refine ⟨?_, AAt.of (by first | exact SubH.refl | exact SubH.app | exact SubH.both (by simp [subL])) ?_⟩; · omega)
                refine AAny.one 1 15 (by kernel_rfl) (by kernel_rfl) (by kernel_rfl) ?_
                simp -dsimp -implicitDefEqProofs (disch := omega) [go_sem, -List.getD_eq_getElem?_getD, ite_yes, ht, hlt, nf, tf, n1, n2, n3, n4, n5, m1, m2, m3, m4, m5, k1, k2]
                first | refine AAt.of (by first | exact SubH.refl | exact SubH.app | exact SubH.both (by simp [subL])) ?_ | (refine ⟨?_, AAt.of (by first | exact SubH.refl | exact SubH.app | exact SubH.both (by simp [subL])) ?_⟩; · omega)
                refine AAny.takes (fuel := 0) (by kernel_rfl) (by kernel_rfl) [16] (by kernel_rfl) (by kernel_rfl) ?_
                simp -dsimp -implicitDefEqProofs (disch := omega) [go_sem, -List.getD_eq_getElem?_getD, ite_yes, ht, hlt, nf, tf, n1, n2, n3, n4, n5, m1, m2, m3, m4, m5, k1, k2]
                refine AAny.done (by kernel_rfl) ?_
                simp -dsimp -implicitDefEqProofs (disch := omega) [go_sem, -List.getD_eq_getElem?_getD, ite_yes, ht, hlt, nf, tf, n1, n2, n3, n4, n5, m1, m2, m3, m4, m5, k1, k2]
                refine ⟨weakS_mk [some 6, some 1] rfl ?_ (by simp -dsimp -implicitDefEqProofs (disch := omega) [go_sem, -List.getD_eq_getElem?_getD, ite_yes, ht, e4])⟩
                simp -dsimp -implicitDefEqProofs (disch := omega) [go_sem, -List.getD_eq_getElem?_getD, ite_yes, ht, hlt, nf, tf, n1, n2, n3, n4, n5, m1, m2, m3, m4, m5, k1, k2]
                exact ⟨.inl ⟨hN, hN ▸ nmE_flat N'⟩, .inl ⟨rfl, nmE_flat _⟩⟩
            · simp -dsimp -implicitDefEqProofs (disch := omega) [go_sem, -List.getD_eq_getElem?_getD, ite_yes, ht, hlt, nf, tf, n1, n2, n3, n4, n5, m1, m2, m3, m4, m5, k1, k2]
              first | refine AAt.of (by first | exact SubH.refl | exact SubH.app | exact SubH.both (by simp [subL])) ?_ | (refine ⟨?_, AAt.of (by first | exact SubH.refl | exact SubH.app | exact SubH.both (by simp [subL])) ?_⟩; · omega)
              refine AAny.one 4 0 (by kernel_rfl) (by kernel_rfl) (by kernel_rfl) ?_
              simp -dsimp -implicitDefEqProofs (disch := omega) [go_sem, -List.getD_eq_getElem?_getD, ite_yes, ht, hlt, nf, tf, n1, n2, n3, n4, n5, m1, m2, m3, m4, m5, k1, k2]
              first | refine AAt.of (by first | exact SubH.refl | exact SubH.app | exact SubH.both (by simp [subL])) ?_ | (refine ⟨?_, AAt.of (by first | exact SubH.refl | exact SubH.app | exact SubH.both (by simp [subL])) ?_⟩; · omega)
              refine AAny.one 3 4 (by kernel_rfl) (by kernel_rfl) (by kernel_rfl) ?_
              simp -dsimp -implicitDefEqProofs (disch := omega) [go_sem, -List.getD_eq_getElem?_getD, ite_yes, ht, hlt, nf, tf, n1, n2, n3, n4, n5, m1, m2, m3, m4, m5, k1, k2]
              first | refine AAt.of (by first | exact SubH.refl | exact SubH.app | exact SubH.both (by simp [subL])) ?_ | (refine ⟨?_, AAt.of (by first | exact SubH.refl | exact SubH.app | exact SubH.both (by simp [subL])) ?_⟩; · omega)
              refine AAny.one 2 11 (by kernel_rfl) (by kernel_rfl) (by kernel_rfl) ?_
              simp -dsimp -implicitDefEqProofs (disch := omega) [go_sem, -List.getD_eq_getElem?_getD, ite_yes, ht, hlt, nf, tf, n1, n2, n3, n4, n5, m1, m2, m3, m4, m5, k1, k2]
              first | refine AAt.of (by first | exact SubH.refl | exact SubH.app | exact SubH.both (by simp [subL])) ?_ | (refine ⟨?_, AAt.of (by first | exact SubH.refl | exact SubH.app | exact SubH.both (by simp [subL])) ?_⟩; · omega)
              refine AAny.one 1 15 (by kernel_rfl) (by kernel_rfl) (by kernel_rfl) ?_
              simp -dsimp -implicitDefEqProofs (disch := omega) [go_sem, -List.getD_eq_getElem?_getD, ite_yes, ht, hlt, nf, tf, n1, n2, n3, n4, n5, m1, m2, m3, m4, m5, k1, k2]
              first | refine AAt.of (by first | exact SubH.refl | exact SubH.app | exact SubH.both (by simp [subL])) ?_ | (refine ⟨?_, AAt.of (by first | exact SubH.refl | exact SubH.app | exact SubH.both (by simp [subL])) ?_⟩; · omega)
              refine AAny.takes (fuel := 0) (by kernel_rfl) (by kernel_rfl) [16] (by kernel_rfl) (by kernel_rfl) ?_
              simp -dsimp -implicitDefEqProofs (disch := omega) [go_sem, -List.getD_eq_getElem?_getD, ite_yes, ht, hlt, nf, tf, n1, n2, n3, n4, n5, m1, m2, m3, m4, m5, k1, k2]
              refine AAny.done (by kernel_rfl) ?_
              simp -dsimp -implicitDefEqProofs (disch := omega) [go_sem, -List.getD_eq_getElem?_getD, ite_yes, ht, hlt, nf, tf, n1, n2, n3, n4, n5, m1, m2, m3, m4, m5, k1, k2]
              refine ⟨weakS_mk [some 6, some 1] rfl ?_ (by simp -dsimp -implicitDefEqProofs (disch := omega) [go_sem, -List.getD_eq_getElem?_getD, ite_yes, ht, e4])⟩
              simp -dsimp -implicitDefEqProofs (disch := omega) [go_sem, -List.getD_eq_getElem?_getD, ite_yes, ht, hlt, nf, tf, n1, n2, n3, n4, n5, m1, m2, m3, m4, m5, k1, k2]
              exact ⟨.inl ⟨hN, hN ▸ nmE_flat N'⟩, .inl ⟨rfl, nmE_flat _⟩⟩
          have nf' : (N'.flatMap nmE).length = n + 1 := by rw [nmE_length, nl']; omega
          simp -dsimp -implicitDefEqProofs (disch := omega) [go_sem, -List.getD_eq_getElem?_getD, ite_yes, ht, hlt, nf, tf, n1, n2, n3, n4, n5, m1, m2, m3, m4, m5, k1, k2, nf']
          refine ADraw.any (H ++ [some ⟨N'.flatMap nmE, true, 3, 1⟩, some ⟨T.flatMap nmE, true, 3, 1⟩]) (by kernel_rfl) (by first | exact SubH.refl | exact SubH.app | exact SubH.both (by simp [subL])) ?_
          refine AAny.takes (fuel := 6) (by kernel_rfl) (by kernel_rfl) [1, 2, 3, 5, 6, 7, 8, 9, 12, 13, 14] (by kernel_rfl) (by kernel_rfl) ?_
          simp -dsimp -implicitDefEqProofs (disch := omega) [go_sem, -List.getD_eq_getElem?_getD, ite_yes, ht, hlt, nf, tf, n1, n2, n3, n4, n5, m1, m2, m3, m4, m5, k1, k2, nf']
          refine AAny.two 5 0 10 (by kernel_rfl) (by kernel_rfl) (by kernel_rfl) ?_ ?_
          · simp -dsimp -implicitDefEqProofs (disch := omega) [go_sem, -List.getD_eq_getElem?_getD, ite_yes, ht, hlt, nf, tf, n1, n2, n3, n4, n5, m1, m2, m3, m4, m5, k1, k2, nf']
            first | refine AAt.of (by first | exact SubH.refl | exact SubH.app | exact SubH.both (by simp [subL])) ?_ | (refine ⟨?_, AAt.of (by first | exact SubH.refl | exact SubH.app | exact SubH.both (by simp [subL])) ?_⟩; · omega)
            refine AAny.two 4 4 10 (by kernel_rfl) (by kernel_rfl) (by kernel_rfl) ?_ ?_
            · simp -dsimp -implicitDefEqProofs (disch := omega) [go_sem, -List.getD_eq_getElem?_getD, ite_yes, ht, hlt, nf, tf, n1, n2, n3, n4, n5, m1, m2, m3, m4, m5, k1, k2, nf']
              first | refine AAt.of (by first | exact SubH.refl | exact SubH.app | exact SubH.both (by simp [subL])) ?_ | (refine ⟨?_, AAt.of (by first | exact SubH.refl | exact SubH.app | exact SubH.both (by simp [subL])) ?_⟩; · omega)
              refine AAny.one 3 10 (by kernel_rfl) (by kernel_rfl) (by kernel_rfl) ?_
              simp -dsimp -implicitDefEqProofs (disch := omega) [go_sem, -List.getD_eq_getElem?_getD, ite_yes, ht, hlt, nf, tf, n1, n2, n3, n4, n5, m1, m2, m3, m4, m5, k1, k2, nf']
              first | refine AAt.of (by first | exact SubH.refl | exact SubH.app | exact SubH.both (by simp [subL])) ?_ | (refine ⟨?_, AAt.of (by first | exact SubH.refl | exact SubH.app | exact SubH.both (by simp [subL])) ?_⟩; · omega)
              refine AAny.one 2 11 (by kernel_rfl) (by kernel_rfl) (by kernel_rfl) ?_
              simp -dsimp -implicitDefEqProofs (disch := omega) [go_sem, -List.getD_eq_getElem?_getD, ite_yes, ht, hlt, nf, tf, n1, n2, n3, n4, n5, m1, m2, m3, m4, m5, k1, k2, nf']
              first | refine AAt.of (by first | exact SubH.refl | exact SubH.app | exact SubH.both (by simp [subL])) ?_ | (refine ⟨?_, AAt.of (by first | exact SubH.refl | exact SubH.app | exact SubH.both (by simp [subL])) ?_⟩; · omega)
              refine AAny.one 1 15 (by kernel_rfl) (by kernel_rfl) (by kernel_rfl) ?_
              simp -dsimp -implicitDefEqProofs (disch := omega) [go_sem, -List.getD_eq_getElem?_getD, ite_yes, ht, hlt, nf, tf, n1, n2, n3, n4, n5, m1, m2, m3, m4, m5, k1, k2, nf']
              first | refine AAt.of (by first | exact SubH.refl | exact SubH.app | exact SubH.both (by simp [subL])) ?_ | (refine ⟨?_, AAt.of (by first | exact SubH.refl | exact SubH.app | exact SubH.both (by simp [subL])) ?_⟩; · omega)
              refine AAny.takes (fuel := 0) (by kernel_rfl) (by kernel_rfl) [16] (by kernel_rfl) (by kernel_rfl) ?_
              simp -dsimp -implicitDefEqProofs (disch := omega) [go_sem, -List.getD_eq_getElem?_getD, ite_yes, ht, hlt, nf, tf, n1, n2, n3, n4, n5, m1, m2, m3, m4, m5, k1, k2, nf']
              refine AAny.done (by kernel_rfl) ?_
              simp -dsimp -implicitDefEqProofs (disch := omega) [go_sem, -List.getD_eq_getElem?_getD, ite_yes, ht, hlt, nf, tf, n1, n2, n3, n4, n5, m1, m2, m3, m4, m5, k1, k2, nf']
              refine LoopEnd.of (i + 1) (by omega) (by omega) (weakS_mk [some 0, some 6] rfl ?_ (by simp -dsimp -implicitDefEqProofs (disch := omega) [go_sem, -List.getD_eq_getElem?_getD, ite_yes, ht, e4, unl]))
              simp -dsimp -implicitDefEqProofs (disch := omega) [go_sem, -List.getD_eq_getElem?_getD, ite_yes, ht, hlt, nf, tf, n1, n2, n3, n4, n5, m1, m2, m3, m4, m5, k1, k2, us, hN'e, hT'e]
              exact ⟨.inl ⟨rfl, nmE_flat _⟩, .inl ⟨hT, hT ▸ nmE_flat T'⟩⟩
            · simp -dsimp -implicitDefEqProofs (disch := omega) [go_sem, -List.getD_eq_getElem?_getD, ite_yes, ht, hlt, nf, tf, n1, n2, n3, n4, n5, m1, m2, m3, m4, m5, k1, k2, nf']
              first | refine AAt.of (by first | exact SubH.refl | exact SubH.app | exact SubH.both (by simp [subL])) ?_ | (refine ⟨?_, AAt.of (by first | exact SubH.refl | exact SubH.app | exact SubH.both (by simp [subL])) ?_⟩; · omega)
              refine AAny.one 3 4 (by kernel_rfl) (by kernel_rfl) (by kernel_rfl) ?_
              simp -dsimp -implicitDefEqProofs (disch := omega) [go_sem, -List.getD_eq_getElem?_getD, ite_yes, ht, hlt, nf, tf, n1, n2, n3, n4, n5, m1, m2, m3, m4, m5, k1, k2, nf']
              first | refine AAt.of (by first | exact SubH.refl | exact SubH.app | exact SubH.both (by simp [subL])) ?_ | (refine ⟨?_, AAt.of (by first | exact SubH.refl | exact SubH.app | exact SubH.both (by simp [subL])) ?_⟩; · omega)
              refine AAny.one 2 11 (by kernel_rfl) (by kernel_rfl) (by kernel_rfl) ?_
              simp -dsimp -implicitDefEqProofs (disch := omega) [go_sem, -List.getD_eq_getElem?_getD, ite_yes, ht, hlt, nf, tf, n1, n2, n3, n4, n5, m1, m2, m3, m4, m5, k1, k2, nf']
              first | refine AAt.of (by first | exact SubH.refl | exact SubH.app | exact SubH.both (by simp [subL])) ?_ | (refine ⟨?_, AAt.of (by first | exact SubH.refl | exact SubH.app | exact SubH.both (by simp [subL])) ?_⟩; · omega)
              refine AAny.one 1 15 (by kernel_rfl) (by kernel_rfl) (by kernel_rfl) ?_
              simp -dsimp -implicitDefEqProofs (disch := omega) [go_sem, -List.getD_eq_getElem?_getD, ite_yes, ht, hlt, nf, tf, n1, n2, n3, n4, n5, m1, m2, m3, m4, m5, k1, k2, nf']
              first | refine AAt.of (by first | exact SubH.refl | exact SubH.app | exact SubH.both (by simp [subL])) ?_ | (refine ⟨?_, AAt.of (by first | exact SubH.refl | exact SubH.app | exact SubH.both (by simp [subL])) ?_⟩; · omega)
              refine AAny.takes (fuel := 0) (by kernel_rfl) (by kernel_rfl) [16] (by kernel_rfl) (by kernel_rfl) ?_
              simp -dsimp -implicitDefEqProofs (disch := omega) [go_sem, -List.getD_eq_getElem?_getD, ite_yes, ht, hlt, nf, tf, n1, n2, n3, n4, n5, m1, m2, m3, m4, m5, k1, k2, nf']
              refine AAny.done (by kernel_rfl) ?_
              simp -dsimp -implicitDefEqProofs (disch := omega) [go_sem, -List.getD_eq_getElem?_getD, ite_yes, ht, hlt, nf, tf, n1, n2, n3, n4, n5, m1, m2, m3, m4, m5, k1, k2, nf']
              refine LoopEnd.of (i + 1) (by omega) (by omega) (weakS_mk [some 0, some 6] rfl ?_ (by simp -dsimp -implicitDefEqProofs (disch := omega) [go_sem, -List.getD_eq_getElem?_getD, ite_yes, ht, e4, unl]))
              simp -dsimp -implicitDefEqProofs (disch := omega) [go_sem, -List.getD_eq_getElem?_getD, ite_yes, ht, hlt, nf, tf, n1, n2, n3, n4, n5, m1, m2, m3, m4, m5, k1, k2, us, hN'e, hT'e]
              exact ⟨.inl ⟨rfl, nmE_flat _⟩, .inl ⟨hT, hT ▸ nmE_flat T'⟩⟩
          · simp -dsimp -implicitDefEqProofs (disch := omega) [go_sem, -List.getD_eq_getElem?_getD, ite_yes, ht, hlt, nf, tf, n1, n2, n3, n4, n5, m1, m2, m3, m4, m5, k1, k2, nf']
            first | refine AAt.of (by first | exact SubH.refl | exact SubH.app | exact SubH.both (by simp [subL])) ?_ | (refine ⟨?_, AAt.of (by first | exact SubH.refl | exact SubH.app | exact SubH.both (by simp [subL])) ?_⟩; · omega)
            refine AAny.one 4 0 (by kernel_rfl) (by kernel_rfl) (by kernel_rfl) ?_
            simp -dsimp -implicitDefEqProofs (disch := omega) [go_sem, -List.getD_eq_getElem?_getD, ite_yes, ht, hlt, nf, tf, n1, n2, n3, n4, n5, m1, m2, m3, m4, m5, k1, k2, nf']
            first | refine AAt.of (by first | exact SubH.refl | exact SubH.app | exact SubH.both (by simp [subL])) ?_ | (refine ⟨?_, AAt.of (by first | exact SubH.refl | exact SubH.app | exact SubH.both (by simp [subL])) ?_⟩; · omega)
            refine AAny.one 3 4 (by kernel_rfl) (by kernel_rfl) (by kernel_rfl) ?_
            simp -dsimp -implicitDefEqProofs (disch := omega) [go_sem, -List.getD_eq_getElem?_getD, ite_yes, ht, hlt, nf, tf, n1, n2, n3, n4, n5, m1, m2, m3, m4, m5, k1, k2, nf']
            first | refine AAt.of (by first | exact SubH.refl | exact SubH.app | exact SubH.both (by simp [subL])) ?_ | (refine ⟨?_, AAt.of (by first | exact SubH.refl | exact SubH.app | exact SubH.both (by simp [subL])) ?_⟩; · omega)
            refine AAny.one 2 11 (by kernel_rfl) (by kernel_rfl) (by kernel_rfl) ?_
            simp -dsimp -implicitDefEqProofs (disch := omega) [go_sem, -List.getD_eq_getElem?_getD, ite_yes, ht, hlt, nf, tf, n1, n2, n3, n4, n5, m1, m2, m3, m4, m5, k1, k2, nf']
            first | refine AAt.of (by first | exact SubH.refl | exact SubH.app | exact SubH.both (by simp [subL])) ?_ | (refine ⟨?_, AAt.of (by first | exact SubH.refl | exact SubH.app | exact SubH.both (by simp [subL])) ?_⟩; · omega)
            refine AAny.one 1 15 (by kernel_rfl) (by kernel_rfl) (by kernel_rfl) ?_
            simp -dsimp -implicitDefEqProofs (disch := omega) [go_sem, -List.getD_eq_getElem?_getD, ite_yes, ht, hlt, nf, tf, n1, n2, n3, n4, n5, m1, m2, m3, m4, m5, k1, k2, nf']
            first | refine AAt.of (by first | exact SubH.refl | exact SubH.app | exact SubH.both (by simp [subL])) ?_ | (refine ⟨?_, AAt.of (by first | exact SubH.refl | exact SubH.app | exact SubH.both (by simp [subL])) ?_⟩; · omega)
            refine AAny.takes (fuel := 0) (by kernel_rfl) (by kernel_rfl) [16] (by kernel_rfl) (by kernel_rfl) ?_
            simp -dsimp -implicitDefEqProofs (disch := omega) [go_sem, -List.getD_eq_getElem?_getD, ite_yes, ht, hlt, nf, tf, n1, n2, n3, n4, n5, m1, m2, m3, m4, m5, k1, k2, nf']
            refine AAny.done (by kernel_rfl) ?_
            simp -dsimp -implicitDefEqProofs (disch := omega) [go_sem, -List.getD_eq_getElem?_getD, ite_yes, ht, hlt, nf, tf, n1, n2, n3, n4, n5, m1, m2, m3, m4, m5, k1, k2, nf']
            refine LoopEnd.of (i + 1) (by omega) (by omega) (weakS_mk [some 0, some 6] rfl ?_ (by simp -dsimp -implicitDefEqProofs (disch := omega) [go_sem, -List.getD_eq_getElem?_getD, ite_yes, ht, e4, unl]))
            simp -dsimp -implicitDefEqProofs (disch := omega) [go_sem, -List.getD_eq_getElem?_getD, ite_yes, ht, hlt, nf, tf, n1, n2, n3, n4, n5, m1, m2, m3, m4, m5, k1, k2, us, hN'e, hT'e]
            exact ⟨.inl ⟨rfl, nmE_flat _⟩, .inl ⟨hT, hT ▸ nmE_flat T'⟩⟩
        | succ k =>
          have hkn : k < n := by omega
          have hp : posA O x (k + 1) = if x.2.2.1 < (O.getD k alD).2.2.1 then posA O x k else k + 1 := rfl
          have cT := flatMap_cells nmE 1 (fun _ => rfl) 0 T k (by omega)
          rw [Nat.mul_one, tk k hkn] at cT
          simp only [nmE] at cT
          generalize (O.getD k alD).2.2.1 = y at hp cT
          simp -dsimp -implicitDefEqProofs (disch := omega) [go_sem, -List.getD_eq_getElem?_getD, ite_yes, ht]
          refine ADraw.quiet (by kernel_rfl) (by kernel_rfl) (by kernel_rfl) ?_
          simp -dsimp -implicitDefEqProofs (disch := omega) [go_sem, -List.getD_eq_getElem?_getD, ite_yes, ht, hkn, tf, cT, hlt, k2]
          refine AIf.of (fun h => ?_) (fun h => ?_)
          · rw [if_pos (of_decide_eq_true h)] at hp
            simp -dsimp -implicitDefEqProofs (disch := omega) [go_sem, -List.getD_eq_getElem?_getD, ite_yes, ht]
            refine LoopEnd.of k ⟨by omega, by rw [hpos, hp]⟩ (by omega) (weakS_mk [some 0, some 1] rfl ?_ (by simp -dsimp -implicitDefEqProofs (disch := omega) [go_sem, -List.getD_eq_getElem?_getD, ite_yes, ht]))
            simp -dsimp -implicitDefEqProofs (disch := omega) [go_sem, -List.getD_eq_getElem?_getD, ite_yes, hNe, hTe]
            exact ⟨.inl ⟨rfl, nmE_flat _⟩, .inl ⟨rfl, nmE_flat _⟩⟩
          · rw [if_neg (of_decide_eq_false h)] at hp
            rw [hp] at hpos
            have n1 := un_take N (k + 1)
            have n2 := un_drop N (k + 1)
            have n3 : (List.flatMap nmE (List.take (k + 1) N)).length = k + 1 := by rw [nmE_length, List.length_take]; omega
            have n4 : (List.flatMap nmE (List.drop (k + 1) N)).length = n - (k + 1) := by rw [nmE_length, List.length_drop]; omega
            have n5 : List.take (n - (k + 1)) (List.flatMap nmE (List.drop (k + 1) N)) = List.flatMap nmE (List.drop (k + 1) N) := List.take_of_length_le (by omega)
            have m1 := un_take T (k + 1)
            have m2 := un_drop T (k + 1)
            have m3 : (List.flatMap nmE (List.take (k + 1) T)).length = k + 1 := by rw [nmE_length, List.length_take]; omega
            have m4 : (List.flatMap nmE (List.drop (k + 1) T)).length = n - (k + 1) := by rw [nmE_length, List.length_drop]; omega
            have m5 : List.take (n - (k + 1)) (List.flatMap nmE (List.drop (k + 1) T)) = List.flatMap nmE (List.drop (k + 1) T) := List.take_of_length_le (by omega)
            have e4 : (k + 1) + 1 + (n - (k + 1)) = n + 1 := by omega
            have hN : N'.flatMap nmE = (N.take (k + 1)).flatMap nmE ++ Value.int .i64 x.1 :: (N.drop (k + 1)).flatMap nmE := hi1 (k + 1) hpos
            have hT : T'.flatMap nmE = (T.take (k + 1)).flatMap nmE ++ Value.int .i64 x.2.2.1 :: (T.drop (k + 1)).flatMap nmE := hi2 (k + 1) hpos
            try simp only [List.drop_zero, List.take_zero, List.flatMap_nil, Nat.sub_zero, List.nil_append, Nat.zero_add] at n1 n2 n3 n4 n5 m1 m2 m3 m4 m5 e4 hN hT
            simp -dsimp -implicitDefEqProofs (disch := omega) [go_sem, -List.getD_eq_getElem?_getD, ite_yes, ht, hlt, nf, tf, n1, n2, n3, n4, n5, m1, m2, m3, m4, m5, k1, k2]
            refine ADraw.mid [(0, .slice (some ⟨t, 0, none⟩) l.length c), (4, .slice (some ⟨H.length, 0, none⟩) (n + 1) 0), (5, .slice (some ⟨H.length + 1, 0, none⟩) n 0), (6, .int .i64 i), (7, .int .i64 (k + 1 : Nat))] (H ++ [some ⟨N'.flatMap nmE, true, 3, 1⟩, some ⟨T.flatMap nmE, true, 3, 1⟩]) ?_ ?_
            · skip
              refine ADraw.any (H ++ [some ⟨N.flatMap nmE, true, 3, 1⟩, some ⟨T.flatMap nmE, true, 3, 1⟩]) (by kernel_rfl) (by first | exact SubH.refl | exact SubH.app | exact SubH.both (by simp [subL])) ?_
              refine AAny.takes (fuel := 6) (by kernel_rfl) (by kernel_rfl) [1, 2, 3, 5, 6, 7, 8, 9, 12, 13, 14] (by kernel_rfl) (by kernel_rfl) ?_
              simp -dsimp -implicitDefEqProofs (disch := omega) [go_sem, -List.getD_eq_getElem?_getD, ite_yes, ht, hlt, nf, tf, n1, n2, n3, n4, n5, m1, m2, m3, m4, m5, k1, k2]
              refine AAny.two 5 0 10 (by kernel_rfl) (by kernel_rfl) (by kernel_rfl) ?_ ?_
              · simp -dsimp -implicitDefEqProofs (disch := omega) [go_sem, -List.getD_eq_getElem?_getD, ite_yes, ht, hlt, nf, tf, n1, n2, n3, n4, n5, m1, m2, m3, m4, m5, k1, k2]
                first | refine AAt.of (by first | exact SubH.refl | exact SubH.app | exact SubH.both (by simp [subL])) ?_ | (refine ⟨?_, AAt.of (by first | exact SubH.refl | exact SubH.app | exact SubH.both (by simp [subL])) ?_⟩; · omega)
                refine AAny.two 4 4 10 (by kernel_rfl) (by kernel_rfl) (by kernel_rfl) ?_ ?_
                · simp -dsimp -implicitDefEqProofs (disch := omega) [go_sem, -List.getD_eq_getElem?_getD, ite_yes, ht, hlt, nf, tf, n1, n2, n3, n4, n5, m1, m2, m3, m4, m5, k1, k2]
                  first | refine AAt.of (by first | exact SubH.refl | exact SubH.app | exact SubH.both (by simp [subL])) ?_ | (refine ⟨?_, AAt.of (by first | exact SubH.refl | exact SubH.app | exact SubH.both (by simp [subL])) ?_⟩; · omega)
                  refine AAny.one 3 10 (by kernel_rfl) (by kernel_rfl) (by kernel_rfl) ?_
                  simp -dsimp -implicitDefEqProofs (disch := omega) [go_sem, -List.getD_eq_getElem?_getD, ite_yes, ht, hlt, nf, tf, n1, n2, n3, n4, n5, m1, m2, m3, m4, m5, k1, k2]
                  first | refine AAt.of (by first | exact SubH.refl | exact SubH.app | exact SubH.both (by simp [subL])) ?_ | (refine ⟨?_, AAt.of (by first | exact SubH.refl | exact SubH.app | exact SubH.both (by simp [subL])) ?_⟩; · omega)
                  refine AAny.one 2 11 (by kernel_rfl) (by kernel_rfl) (by kernel_rfl) ?_
                  simp -dsimp -implicitDefEqProofs (disch := omega) [go_sem, -List.getD_eq_getElem?_getD, ite_yes, ht, hlt, nf, tf, n1, n2, n3, n4, n5, m1, m2, m3, m4, m5, k1, k2]
                  first | refine AAt.of (by first | exact SubH.refl | exact SubH.app | exact SubH.both (by simp [subL])) ?_ | (refine ⟨?_, AAt.of (by first | exact SubH.refl | exact SubH.app | exact SubH.both (by simp [subL])) ?_⟩; · omega)
                  refine AAny.one 1 15 (by kernel_rfl) (by kernel_rfl) (by kernel_rfl) ?_
                  simp -dsimp -implicitDefEqProofs (disch := omega) [go_sem, -List.getD_eq_getElem?_getD, ite_yes, ht, hlt, nf, tf, n1, n2, n3, n4, n5, m1, m2, m3, m4, m5, k1, k2]
                  first | refine AAt.of (by first | exact SubH.refl | exact SubH.app | exact SubH.both (by simp [subL])) ?_ | (refine ⟨?_, AAt.of (by first | exact SubH.refl | exact SubH.app | exact SubH.both (by simp [subL])) ?_⟩; · omega)
                  refine AAny.takes (fuel := 0) (by kernel_rfl) (by kernel_rfl) [16] (by kernel_rfl) (by kernel_rfl) ?_
                  simp -dsimp -implicitDefEqProofs (disch := omega) [go_sem, -List.getD_eq_getElem?_getD, ite_yes, ht, hlt, nf, tf, n1, n2, n3, n4, n5, m1, m2, m3, m4, m5, k1, k2]
                  refine AAny.done (by kernel_rfl) ?_
                  simp -dsimp -implicitDefEqProofs (disch := omega) [go_sem, -List.getD_eq_getElem?_getD, ite_yes, ht, hlt, nf, tf, n1, n2, n3, n4, n5, m1, m2, m3, m4, m5, k1, k2]
                  refine ⟨weakS_mk [some 6, some 1] rfl ?_ (by simp -dsimp -implicitDefEqProofs (disch := omega) [go_sem, -List.getD_eq_getElem?_getD, ite_yes, ht, e4])⟩
                  simp -dsimp -implicitDefEqProofs (disch := omega) [go_sem, -List.getD_eq_getElem?_getD, ite_yes, ht, hlt, nf, tf, n1, n2, n3, n4, n5, m1, m2, m3, m4, m5, k1, k2]
                  exact ⟨.inl ⟨hN, hN ▸ nmE_flat N'⟩, .inl ⟨rfl, nmE_flat _⟩⟩
                · simp -dsimp -implicitDefEqProofs (disch := omega) [go_sem, -List.getD_eq_getElem?_getD, ite_yes, ht, hlt, nf, tf, n1, n2, n3, n4, n5, m1, m2, m3, m4, m5, k1, k2]
                  first | refine AAt.of (by first | exact SubH.refl | exact SubH.app | exact SubH.both (by simp [subL])) ?_ | (refine ⟨?_, AAt.of (by first | exact SubH.refl | exact SubH.app | exact SubH.both (by simp [subL])) ?_⟩; · omega)
                  refine AAny.one 3 4 (by kernel_rfl) (by kernel_rfl) (by kernel_rfl) ?_
                  simp -dsimp -implicitDefEqProofs (disch := omega) [go_sem, -List.getD_eq_getElem?_getD, ite_yes, ht, hlt, nf, tf, n1, n2, n3, n4, n5, m1, m2, m3, m4, m5, k1, k2]
                  first | refine AAt.of (by first | exact SubH.refl | exact SubH.app | exact SubH.both (by simp [subL])) ?_ | (refine ⟨?_, AAt.of (by first | exact SubH.refl | exact SubH.app | exact SubH.both (by simp [subL])) ?_⟩; · omega)
                  refine AAny.one 2 11 (by kernel_rfl) (by kernel_rfl) (by kernel_rfl) ?_
                  simp -dsimp -implicitDefEqProofs (disch := omega) [go_sem, -List.getD_eq_getElem?_getD, ite_yes, ht, hlt, nf, tf, n1, n2, n3, n4, n5, m1, m2, m3, m4, m5, k1, k2]
                  first | refine AAt.of (by first | exact SubH.refl | exact SubH.app | exact SubH.both (by simp [subL])) ?_ | (refine ⟨?_, AAt.of (by first | exact SubH.refl | exact SubH.app | exact SubH.both (by simp [subL])) ?_⟩; · omega)
                  refine AAny.one 1 15 (by kernel_rfl) (by kernel_rfl) (by kernel_rfl) ?_
                  simp -dsimp -implicitDefEqProofs (disch := omega) [go_sem, -List.getD_eq_getElem?_getD, ite_yes, ht, hlt, nf, tf, n1, n2, n3, n4, n5, m1, m2, m3, m4, m5, k1, k2]
                  first | refine AAt.of (by first | exact SubH.refl | exact SubH.app | exact SubH.both (by simp [subL])) ?_ | (refine ⟨?_, AAt.of (by first | exact SubH.refl | exact SubH.app | exact SubH.both (by simp [subL])) ?_⟩; · omega)
                  refine AAny.takes (fuel := 0) (by kernel_rfl) (by kernel_rfl) [16] (by kernel_rfl) (by kernel_rfl) ?_
                  simp -dsimp -implicitDefEqProofs (disch := omega) [go_sem, -List.getD_eq_getElem?_getD, ite_yes, ht, hlt, nf, tf, n1, n2, n3, n4, n5, m1, m2, m3, m4, m5, k1, k2]
                  refine AAny.done (by kernel_rfl) ?_
                  simp -dsimp -implicitDefEqProofs (disch := omega) [go_sem, -List.getD_eq_getElem?_getD, ite_yes, ht, hlt, nf, tf, n1, n2, n3, n4, n5, m1, m2, m3, m4, m5, k1, k2]
                  refine ⟨weakS_mk [some 6, some 1] rfl ?_ (by simp -dsimp -implicitDefEqProofs (disch := omega) [go_sem, -List.getD_eq_getElem?_getD, ite_yes, ht, e4])⟩
                  simp -dsimp -implicitDefEqProofs (disch := omega) [go_sem, -List.getD_eq_getElem?_getD, ite_yes, ht, hlt, nf, tf, n1, n2, n3, n4, n5, m1, m2, m3, m4, m5, k1, k2]
                  exact ⟨.inl ⟨hN, hN ▸ nmE_flat N'⟩, .inl ⟨rfl, nmE_flat _⟩⟩
              · simp -dsimp -implicitDefEqProofs (disch := omega) [go_sem, -List.getD_eq_getElem?_getD, ite_yes, ht, hlt, nf, tf, n1, n2, n3, n4, n5, m1, m2, m3, m4, m5, k1, k2]
                first | refine AAt.of (by first | exact SubH.refl | exact SubH.app | exact SubH.both (by simp [subL])) ?_ | (refine ⟨?_, AAt.of (by first | exact SubH.refl | exact SubH.app | exact SubH.both (by simp [subL])) ?_⟩; · omega)
                refine AAny.one 4 0 (by kernel_rfl) (by kernel_rfl) (by kernel_rfl) ?_
                simp -dsimp -implicitDefEqProofs (disch := omega) [go_sem, -List.getD_eq_getElem?_getD, ite_yes, ht, hlt, nf, tf, n1, n2, n3, n4, n5, m1, m2, m3, m4, m5, k1, k2]
                first | refine AAt.of (by first | exact SubH.refl | exact SubH.app | exact SubH.both (by simp [subL])) ?_ | (refine ⟨?_, AAt.of (by first | exact SubH.refl | exact SubH.app | exact SubH.both (by simp [subL])) ?_⟩; · omega)
                refine AAny.one 3 4 (by kernel_rfl) (by kernel_rfl) (by kernel_rfl) ?_
                simp -dsimp -implicitDefEqProofs (disch := omega) [go_sem, -List.getD_eq_getElem?_getD, ite_yes, ht, hlt, nf, tf, n1, n2, n3, n4, n5, m1, m2, m3, m4, m5, k1, k2]
                first | refine AAt.of (by first | exact SubH.refl | exact SubH.app | exact SubH.both (by simp [subL])) ?_ | (refine ⟨?_, AAt.of (by first | exact SubH.refl | exact SubH.app | exact SubH.both (by simp [subL])) ?_⟩; · omega)
                refine AAny.one 2 11 (by kernel_rfl) (by kernel_rfl) (by kernel_rfl) ?_
                simp -dsimp -implicitDefEqProofs (disch := omega) [go_sem, -List.getD_eq_getElem?_getD, ite_yes, ht, hlt, nf, tf, n1, n2, n3, n4, n5, m1, m2, m3, m4, m5, k1, k2]
                first | refine AAt.of (by first | exact SubH.refl | exact SubH.app | exact SubH.both (by simp [subL])) ?_ | (refine ⟨?_, AAt.of (by first | exact SubH.refl | exact SubH.app | exact SubH.both (by simp [subL])) ?_⟩; · omega)
                refine AAny.one 1 15 (by kernel_rfl) (by kernel_rfl) (by kernel_rfl) ?_
                simp -dsimp -implicitDefEqProofs (disch := omega) [go_sem, -List.getD_eq_getElem?_getD, ite_yes, ht, hlt, nf, tf, n1, n2, n3, n4, n5, m1, m2, m3, m4, m5, k1, k2]
                first | refine AAt.of (by first | exact SubH.refl | exact SubH.app | exact SubH.both (by simp [subL])) ?_ | (refine ⟨?_, AAt.of (by first | exact SubH.refl | exact SubH.app | exact SubH.both (by simp [subL])) ?_⟩; · omega)
                refine AAny.takes (fuel := 0) (by kernel_rfl) (by kernel_rfl) [16] (by kernel_rfl) (by kernel_rfl) ?_
                simp -dsimp -implicitDefEqProofs (disch := omega) [go_sem, -List.getD_eq_getElem?_getD, ite_yes, ht, hlt, nf, tf, n1, n2, n3, n4, n5, m1, m2, m3, m4, m5, k1, k2]
                refine AAny.done (by kernel_rfl) ?_
                simp -dsimp -implicitDefEqProofs (disch := omega) [go_sem, -List.getD_eq_getElem?_getD, ite_yes, ht, hlt, nf, tf, n1, n2, n3, n4, n5, m1, m2, m3, m4, m5, k1, k2]
                refine ⟨weakS_mk [some 6, some 1] rfl ?_ (by simp -dsimp -implicitDefEqProofs (disch := omega) [go_sem, -List.getD_eq_getElem?_getD, ite_yes, ht, e4])⟩
                simp -dsimp -implicitDefEqProofs (disch := omega) [go_sem, -List.getD_eq_getElem?_getD, ite_yes, ht, hlt, nf, tf, n1, n2, n3, n4, n5, m1, m2, m3, m4, m5, k1, k2]
                exact ⟨.inl ⟨hN, hN ▸ nmE_flat N'⟩, .inl ⟨rfl, nmE_flat _⟩⟩
            have nf' : (N'.flatMap nmE).length = n + 1 := by rw [nmE_length, nl']; omega
            simp -dsimp -implicitDefEqProofs (disch := omega) [go_sem, -List.getD_eq_getElem?_getD, ite_yes, ht, hlt, nf, tf, n1, n2, n3, n4, n5, m1, m2, m3, m4, m5, k1, k2, nf']
            refine ADraw.any (H ++ [some ⟨N'.flatMap nmE, true, 3, 1⟩, some ⟨T.flatMap nmE, true, 3, 1⟩]) (by kernel_rfl) (by first | exact SubH.refl | exact SubH.app | exact SubH.both (by simp [subL])) ?_
            refine AAny.takes (fuel := 6) (by kernel_rfl) (by kernel_rfl) [1, 2, 3, 5, 6, 7, 8, 9, 12, 13, 14] (by kernel_rfl) (by kernel_rfl) ?_
            simp -dsimp -implicitDefEqProofs (disch := omega) [go_sem, -List.getD_eq_getElem?_getD, ite_yes, ht, hlt, nf, tf, n1, n2, n3, n4, n5, m1, m2, m3, m4, m5, k1, k2, nf']
            refine AAny.two 5 0 10 (by kernel_rfl) (by kernel_rfl) (by kernel_rfl) ?_ ?_
            · simp -dsimp -implicitDefEqProofs (disch := omega) [go_sem, -List.getD_eq_getElem?_getD, ite_yes, ht, hlt, nf, tf, n1, n2, n3, n4, n5, m1, m2, m3, m4, m5, k1, k2, nf']
              first | refine AAt.of (by first | exact SubH.refl | exact SubH.app | exact SubH.both (by simp [subL])) ?_ | (refine ⟨?_, AAt.of (by first | exact SubH.refl | exact SubH.app | exact SubH.both (by simp [subL])) ?_⟩; · omega)
              refine AAny.two 4 4 10 (by kernel_rfl) (by kernel_rfl) (by kernel_rfl) ?_ ?_
              · simp -dsimp -implicitDefEqProofs (disch := omega) [go_sem, -List.getD_eq_getElem?_getD, ite_yes, ht, hlt, nf, tf, n1, n2, n3, n4, n5, m1, m2, m3, m4, m5, k1, k2, nf']
                first | refine AAt.of (by first | exact SubH.refl | exact SubH.app | exact SubH.both (by simp [subL])) ?_ | (refine ⟨?_, AAt.of (by first | exact SubH.refl | exact SubH.app | exact SubH.both (by simp [subL])) ?_⟩; · omega)
                refine AAny.one 3 10 (by kernel_rfl) (by kernel_rfl) (by kernel_rfl) ?_
                simp -dsimp -implicitDefEqProofs (disch := omega) [go_sem, -List.getD_eq_getElem?_getD, ite_yes, ht, hlt, nf, tf, n1, n2, n3, n4, n5, m1, m2, m3, m4, m5, k1, k2, nf']
                first | refine AAt.of (by first | exact SubH.refl | exact SubH.app | exact SubH.both (by simp [subL])) ?_ | (refine ⟨?_, AAt.of (by first | exact SubH.refl | exact SubH.app | exact SubH.both (by simp [subL])) ?_⟩; · omega)
                refine AAny.one 2 11 (by kernel_rfl) (by kernel_rfl) (by kernel_rfl) ?_
                simp -dsimp -implicitDefEqProofs (disch := omega) [go_sem, -List.getD_eq_getElem?_getD, ite_yes, ht, hlt, nf, tf, n1, n2, n3, n4, n5, m1, m2, m3, m4, m5, k1, k2, nf']
                first | refine AAt.of (by first | exact SubH.refl | exact SubH.app | exact SubH.both (by simp [subL])) ?_ | (refine ⟨?_, AAt.of (by first | exact SubH.refl | exact SubH.app | exact SubH.both (by simp [subL])) ?_⟩; · omega)
                refine AAny.one 1 15 (by kernel_rfl) (by kernel_rfl) (by kernel_rfl) ?_
                simp -dsimp -implicitDefEqProofs (disch := omega) [go_sem, -List.getD_eq_getElem?_getD, ite_yes, ht, hlt, nf, tf, n1, n2, n3, n4, n5, m1, m2, m3, m4, m5, k1, k2, nf']
                first | refine AAt.of (by first | exact SubH.refl | exact SubH.app | exact SubH.both (by simp [subL])) ?_ | (refine ⟨?_, AAt.of (by first | exact SubH.refl | exact SubH.app | exact SubH.both (by simp [subL])) ?_⟩; · omega)
                refine AAny.takes (fuel := 0) (by kernel_rfl) (by kernel_rfl) [16] (by kernel_rfl) (by kernel_rfl) ?_
                simp -dsimp -implicitDefEqProofs (disch := omega) [go_sem, -List.getD_eq_getElem?_getD, ite_yes, ht, hlt, nf, tf, n1, n2, n3, n4, n5, m1, m2, m3, m4, m5, k1, k2, nf']
                refine AAny.done (by kernel_rfl) ?_
                simp -dsimp -implicitDefEqProofs (disch := omega) [go_sem, -List.getD_eq_getElem?_getD, ite_yes, ht, hlt, nf, tf, n1, n2, n3, n4, n5, m1, m2, m3, m4, m5, k1, k2, nf']
                refine LoopEnd.of (i + 1) (by omega) (by omega) (weakS_mk [some 0, some 6] rfl ?_ (by simp -dsimp -implicitDefEqProofs (disch := omega) [go_sem, -List.getD_eq_getElem?_getD, ite_yes, ht, e4, unl]))
                simp -dsimp -implicitDefEqProofs (disch := omega) [go_sem, -List.getD_eq_getElem?_getD, ite_yes, ht, hlt, nf, tf, n1, n2, n3, n4, n5, m1, m2, m3, m4, m5, k1, k2, us, hN'e, hT'e]
                exact ⟨.inl ⟨rfl, nmE_flat _⟩, .inl ⟨hT, hT ▸ nmE_flat T'⟩⟩
              · simp -dsimp -implicitDefEqProofs (disch := omega) [go_sem, -List.getD_eq_getElem?_getD, ite_yes, ht, hlt, nf, tf, n1, n2, n3, n4, n5, m1, m2, m3, m4, m5, k1, k2, nf']
                first | refine AAt.of (by first | exact SubH.refl | exact SubH.app | exact SubH.both (by simp [subL])) ?_ | (refine ⟨?_, AAt.of (by first | exact SubH.refl | exact SubH.app | exact SubH.both (by simp [subL])) ?_⟩; · omega)
                refine AAny.one 3 4 (by kernel_rfl) (by kernel_rfl) (by kernel_rfl) ?_
                simp -dsimp -implicitDefEqProofs (disch := omega) [go_sem, -List.getD_eq_getElem?_getD, ite_yes, ht, hlt, nf, tf, n1, n2, n3, n4, n5, m1, m2, m3, m4, m5, k1, k2, nf']
                first | refine AAt.of (by first | exact SubH.refl | exact SubH.app | exact SubH.both (by simp [subL])) ?_ | (refine ⟨?_, AAt.of (by first | exact SubH.refl | exact SubH.app | exact SubH.both (by simp [subL])) ?_⟩; · omega)
                refine AAny.one 2 11 (by kernel_rfl) (by kernel_rfl) (by kernel_rfl) ?_
                simp -dsimp -implicitDefEqProofs (disch := omega) [go_sem, -List.getD_eq_getElem?_getD, ite_yes, ht, hlt, nf, tf, n1, n2, n3, n4, n5, m1, m2, m3, m4, m5, k1, k2, nf']
                first | refine AAt.of (by first | exact SubH.refl | exact SubH.app | exact SubH.both (by simp [subL])) ?_ | (refine ⟨?_, AAt.of (by first | exact SubH.refl | exact SubH.app | exact SubH.both (by simp [subL])) ?_⟩; · omega)
                refine AAny.one 1 15 (by kernel_rfl) (by kernel_rfl) (by kernel_rfl) ?_
                simp -dsimp -implicitDefEqProofs (disch := omega) [go_sem, -List.getD_eq_getElem?_getD, ite_yes, ht, hlt, nf, tf, n1, n2, n3, n4, n5, m1, m2, m3, m4, m5, k1, k2, nf']
                first | refine AAt.of (by first | exact SubH.refl | exact SubH.app | exact SubH.both (by simp [subL])) ?_ | (refine ⟨?_, AAt.of (by first | exact SubH.refl | exact SubH.app | exact SubH.both (by simp [subL])) ?_⟩; · omega)
                refine AAny.takes (fuel := 0) (by kernel_rfl) (by kernel_rfl) [16] (by kernel_rfl) (by kernel_rfl) ?_
                simp -dsimp -implicitDefEqProofs (disch := omega) [go_sem, -List.getD_eq_getElem?_getD, ite_yes, ht, hlt, nf, tf, n1, n2, n3, n4, n5, m1, m2, m3, m4, m5, k1, k2, nf']
                refine AAny.done (by kernel_rfl) ?_
                simp -dsimp -implicitDefEqProofs (disch := omega) [go_sem, -List.getD_eq_getElem?_getD, ite_yes, ht, hlt, nf, tf, n1, n2, n3, n4, n5, m1, m2, m3, m4, m5, k1, k2, nf']
                refine LoopEnd.of (i + 1) (by omega) (by omega) (weakS_mk [some 0, some 6] rfl ?_ (by simp -dsimp -implicitDefEqProofs (disch := omega) [go_sem, -List.getD_eq_getElem?_getD, ite_yes, ht, e4, unl]))
                simp -dsimp -implicitDefEqProofs (disch := omega) [go_sem, -List.getD_eq_getElem?_getD, ite_yes, ht, hlt, nf, tf, n1, n2, n3, n4, n5, m1, m2, m3, m4, m5, k1, k2, us, hN'e, hT'e]
                exact ⟨.inl ⟨rfl, nmE_flat _⟩, .inl ⟨hT, hT ▸ nmE_flat T'⟩⟩
            · simp -dsimp -implicitDefEqProofs (disch := omega) [go_sem, -List.getD_eq_getElem?_getD, ite_yes, ht, hlt, nf, tf, n1, n2, n3, n4, n5, m1, m2, m3, m4, m5, k1, k2, nf']
              first | refine AAt.of (by first | exact SubH.refl | exact SubH.app | exact SubH.both (by simp [subL])) ?_ | (refine ⟨?_, AAt.of (by first | exact SubH.refl | exact SubH.app | exact SubH.both (by simp [subL])) ?_⟩; · omega)
              refine AAny.one 4 0 (by kernel_rfl) (by kernel_rfl) (by kernel_rfl) ?_
              simp -dsimp -implicitDefEqProofs (disch := omega) [go_sem, -List.getD_eq_getElem?_getD, ite_yes, ht, hlt, nf, tf, n1, n2, n3, n4, n5, m1, m2, m3, m4, m5, k1, k2, nf']
              first | refine AAt.of (by first | exact SubH.refl | exact SubH.app | exact SubH.both (by simp [subL])) ?_ | (refine ⟨?_, AAt.of (by first | exact SubH.refl | exact SubH.app | exact SubH.both (by simp [subL])) ?_⟩; · omega)
              refine AAny.one 3 4 (by kernel_rfl) (by kernel_rfl) (by kernel_rfl) ?_
              simp -dsimp -implicitDefEqProofs (disch := omega) [go_sem, -List.getD_eq_getElem?_getD, ite_yes, ht, hlt, nf, tf, n1, n2, n3, n4, n5, m1, m2, m3, m4, m5, k1, k2, nf']
              first | refine AAt.of (by first | exact SubH.refl | exact SubH.app | exact SubH.both (by simp [subL])) ?_ | (refine ⟨?_, AAt.of (by first | exact SubH.refl | exact SubH.app | exact SubH.both (by simp [subL])) ?_⟩; · omega)
              refine AAny.one 2 11 (by kernel_rfl) (by kernel_rfl) (by kernel_rfl) ?_
              simp -dsimp -implicitDefEqProofs (disch := omega) [go_sem, -List.getD_eq_getElem?_getD, ite_yes, ht, hlt, nf, tf, n1, n2, n3, n4, n5, m1, m2, m3, m4, m5, k1, k2, nf']
              first | refine AAt.of (by first | exact SubH.refl | exact SubH.app | exact SubH.both (by simp [subL])) ?_ | (refine ⟨?_, AAt.of (by first | exact SubH.refl | exact SubH.app | exact SubH.both (by simp [subL])) ?_⟩; · omega)
              refine AAny.one 1 15 (by kernel_rfl) (by kernel_rfl) (by kernel_rfl) ?_
              simp -dsimp -implicitDefEqProofs (disch := omega) [go_sem, -List.getD_eq_getElem?_getD, ite_yes, ht, hlt, nf, tf, n1, n2, n3, n4, n5, m1, m2, m3, m4, m5, k1, k2, nf']
              first | refine AAt.of (by first | exact SubH.refl | exact SubH.app | exact SubH.both (by simp [subL])) ?_ | (refine ⟨?_, AAt.of (by first | exact SubH.refl | exact SubH.app | exact SubH.both (by simp [subL])) ?_⟩; · omega)
              refine AAny.takes (fuel := 0) (by kernel_rfl) (by kernel_rfl) [16] (by kernel_rfl) (by kernel_rfl) ?_
              simp -dsimp -implicitDefEqProofs (disch := omega) [go_sem, -List.getD_eq_getElem?_getD, ite_yes, ht, hlt, nf, tf, n1, n2, n3, n4, n5, m1, m2, m3, m4, m5, k1, k2, nf']
              refine AAny.done (by kernel_rfl) ?_
              simp -dsimp -implicitDefEqProofs (disch := omega) [go_sem, -List.getD_eq_getElem?_getD, ite_yes, ht, hlt, nf, tf, n1, n2, n3, n4, n5, m1, m2, m3, m4, m5, k1, k2, nf']
              refine LoopEnd.of (i + 1) (by omega) (by omega) (weakS_mk [some 0, some 6] rfl ?_ (by simp -dsimp -implicitDefEqProofs (disch := omega) [go_sem, -List.getD_eq_getElem?_getD, ite_yes, ht, e4, unl]))
              simp -dsimp -implicitDefEqProofs (disch := omega) [go_sem, -List.getD_eq_getElem?_getD, ite_yes, ht, hlt, nf, tf, n1, n2, n3, n4, n5, m1, m2, m3, m4, m5, k1, k2, us, hN'e, hT'e]
              exact ⟨.inl ⟨rfl, nmE_flat _⟩, .inl ⟨hT, hT ▸ nmE_flat T'⟩⟩
    · simp -dsimp -implicitDefEqProofs (disch := omega) [go_sem, -List.getD_eq_getElem?_getD, ite_yes, hlt]
      obtain rfl : i = l.length := by omega
      rw [show (unTo l l.length).length = (unN l).length by unfold unN; rw [List.length_map, ol]]
      refine fin_list [some 0] rfl ?_ (by simp -dsimp -implicitDefEqProofs (disch := omega) [go_sem, -List.getD_eq_getElem?_getD, ite_yes, ht])
      simp -dsimp -implicitDefEqProofs (disch := omega) [go_sem, -List.getD_eq_getElem?_getD, ite_yes]
      exact .inl ⟨rfl, nmE_flat _⟩
end Go.Proofs.YthnnbgggfpempaaDoor
/- UnseenNodes of no list at all. -/
namespace Go.Proofs.YthnnbgggfpempaaDoor
open Go.Am
set_option linter.unusedVariables false
set_option linter.unusedSimpArgs false
set_option maxRecDepth 100000
set_option maxHeartbeats 4000000
theorem areAlarms_nil (H : Heap) : AFunC Tryd.prog 96 [.slice none 0 0] H (.bool true) H := by
  refine AFunC.of_body Tryd.func96 (by kernel_rfl) rfl (by kernel_rfl) (by simp [Tryd.ntmps96]) ?_
  simp -dsimp -implicitDefEqProofs (disch := omega) [go_sem, -List.getD_eq_getElem?_getD, ite_yes]
  refine ALoop.intro (ι := Unit) (fun _ => True) (fun _ => [(5, .slice none 0 0), (6, .int .i64 0), (7, .int .i64 0)]) (fun _ => H) (fun _ => 0) () trivial ?_ ?_
  · exact weakS_same (by simp -dsimp -implicitDefEqProofs (disch := omega) [go_sem, -List.getD_eq_getElem?_getD, ite_yes])
  · intro _ _
    simp -dsimp -implicitDefEqProofs (disch := omega) [go_sem, -List.getD_eq_getElem?_getD, ite_yes]
    exact fin_flat0 rfl rfl
theorem l21Alarms_nil (H : Heap) : AFunC Tryd.prog 100 [.slice none 0 0] H (.bool true) H := by
  refine AFunC.of_body Tryd.func100 (by kernel_rfl) rfl (by kernel_rfl) (by simp [Tryd.ntmps100]) ?_
  simp -dsimp -implicitDefEqProofs (disch := omega) [go_sem, -List.getD_eq_getElem?_getD, ite_yes]
  refine ALoop.intro (ι := Unit) (fun _ => True) (fun _ => [(0, .slice none 0 0), (3, .int .i64 0)]) (fun _ => H) (fun _ => 0) () trivial ?_ ?_
  · exact weakS_same (by simp -dsimp -implicitDefEqProofs (disch := omega) [go_sem, -List.getD_eq_getElem?_getD, ite_yes])
  · intro _ _
    simp -dsimp -implicitDefEqProofs (disch := omega) [go_sem, -List.getD_eq_getElem?_getD, ite_yes]
    exact fin_flat0 rfl rfl
theorem iUnseen_nil (H : Heap) :
    AFunC Tryd.prog 50 [.slice none 0 0] H (.tuple #[.slice (some ⟨H.length, 0, none⟩) 0 0, .bool true]) (H ++ [some ⟨[], true, 3, 1⟩]) := by
  refine AFunC.of_body Tryd.func50 (by kernel_rfl) rfl (by kernel_rfl) (by simp [Tryd.ntmps50]) ?_
  simp -dsimp -implicitDefEqProofs (disch := omega) [go_sem, -List.getD_eq_getElem?_getD, ite_yes]
  refine ACall.of (areAlarms_nil _) ?_
  simp -dsimp -implicitDefEqProofs (disch := omega) [go_sem, -List.getD_eq_getElem?_getD, ite_yes]
  refine ALoop.intro (ι := Unit) (fun _ => True) (fun _ => [(4, .slice (some ⟨H.length, 0, none⟩) 0 0), (5, .slice (some ⟨H.length + 1, 0, none⟩) 0 0), (15, .slice none 0 0), (16, .int .i64 0), (17, .int .i64 0)])
    (fun _ => H ++ [some ⟨[], true, 67, 4⟩, some ⟨[], true, 3, 1⟩]) (fun _ => 0) () trivial ?_ ?_
  · refine weakS_mk [some 0, some 1] rfl ?_ (by simp -dsimp -implicitDefEqProofs (disch := omega) [go_sem, -List.getD_eq_getElem?_getD, ite_yes])
    simp -dsimp -implicitDefEqProofs (disch := omega) [go_sem, -List.getD_eq_getElem?_getD, ite_yes]
    exact .inl ⟨rfl, rfl⟩
  intro _ _
  simp -dsimp -implicitDefEqProofs (disch := omega) [go_sem, -List.getD_eq_getElem?_getD, ite_yes]
  refine ACall.of (sortUn_A [] (by simp) 0 _ _ _ (by rw [Heap.get_len]; rfl)) ?_
  simp -dsimp -implicitDefEqProofs (disch := omega) [go_sem, -List.getD_eq_getElem?_getD, ite_yes, sortA, ordA]
  refine ALoop.intro (ι := Unit) (fun _ => True) (fun _ => [(5, .slice (some ⟨H.length + 1, 0, none⟩) 0 0), (31, .slice (some ⟨H.length, 0, none⟩) 0 0), (32, .int .i64 0), (33, .int .i64 0)])
    (fun _ => H ++ [some ⟨[], true, 67, 4⟩, some ⟨[], true, 3, 1⟩]) (fun _ => 0) () trivial ?_ ?_
  · refine weakS_mk [some 0, some 1] rfl ?_ (by simp -dsimp -implicitDefEqProofs (disch := omega) [go_sem, -List.getD_eq_getElem?_getD, ite_yes])
    simp -dsimp -implicitDefEqProofs (disch := omega) [go_sem, -List.getD_eq_getElem?_getD, ite_yes]
    exact .inl ⟨rfl, rfl⟩
  intro _ _
  simp -dsimp -implicitDefEqProofs (disch := omega) [go_sem, -List.getD_eq_getElem?_getD, ite_yes]
  refine fin_list [some 1] rfl ?_ (by simp -dsimp -implicitDefEqProofs (disch := omega) [go_sem, -List.getD_eq_getElem?_getD, ite_yes])
  simp -dsimp -implicitDefEqProofs (disch := omega) [go_sem, -List.getD_eq_getElem?_getD, ite_yes]
  exact .inl ⟨rfl, rfl⟩
theorem sUnseen_nil (H : Heap) :
    AFunC Tryd.prog 51 [.slice none 0 0] H (.tuple #[.slice (some ⟨H.length, 0, none⟩) 0 0, .bool true]) (H ++ [some ⟨[], true, 3, 1⟩]) := by
  refine AFunC.of_body Tryd.func51 (by kernel_rfl) rfl (by kernel_rfl) (by simp [Tryd.ntmps51]) ?_
  simp -dsimp -implicitDefEqProofs (disch := omega) [go_sem, -List.getD_eq_getElem?_getD, ite_yes]
  refine ACall.of (l21Alarms_nil _) ?_
  simp -dsimp -implicitDefEqProofs (disch := omega) [go_sem, -List.getD_eq_getElem?_getD, ite_yes]
  refine ALoop.intro (ι := Unit) (fun _ => True) (fun _ => [(0, .slice none 0 0), (4, .slice (some ⟨H.length, 0, none⟩) 0 0), (5, .slice (some ⟨H.length + 1, 0, none⟩) 0 0), (6, .int .i64 0)])
    (fun _ => H ++ [some ⟨[], true, 3, 1⟩, some ⟨[], true, 3, 1⟩]) (fun _ => 0) () trivial ?_ ?_
  · refine weakS_mk [some 0, some 1] rfl ?_ (by simp -dsimp -implicitDefEqProofs (disch := omega) [go_sem, -List.getD_eq_getElem?_getD, ite_yes])
    simp -dsimp -implicitDefEqProofs (disch := omega) [go_sem, -List.getD_eq_getElem?_getD, ite_yes]
    exact .inl ⟨rfl, rfl⟩
  intro _ _
  simp -dsimp -implicitDefEqProofs (disch := omega) [go_sem, -List.getD_eq_getElem?_getD, ite_yes]
  refine fin_list [some 0] rfl ?_ (by simp -dsimp -implicitDefEqProofs (disch := omega) [go_sem, -List.getD_eq_getElem?_getD, ite_yes])
  simp -dsimp -implicitDefEqProofs (disch := omega) [go_sem, -List.getD_eq_getElem?_getD, ite_yes]
  exact .inl ⟨rfl, rfl⟩
end Go.Proofs.YthnnbgggfpempaaDoor
