/- The numbers between other bytes of a text. -/
import Derived.Test.YthnnbgggfpempaaDoorParseN
import Derived.Test.YthnnbgggfpempaaDoorRecNm
namespace Go.Proofs.YthnnbgggfpempaaDoor
open Go.Am Go.Lib
set_option linter.unusedVariables false
set_option linter.unusedSimpArgs false
set_option maxRecDepth 100000
set_option maxHeartbeats 2000000
def numsI (m : Nat) (l : List UInt8) : List Int := (numsOf m l).map fun (n : Nat) => (n : Int)
theorem numsI_next {m : Nat} {out : List Int} {l : List UInt8} {i j n : Nat} {b : UInt8} (hm : out.length < m) (hd : l.drop i = b :: l.drop (i + 1)) (hb : isDg b = true) (ht : takeNum 6 0 (l.drop i) = (n, l.drop j)) :
    numsI (m - out.length) (l.drop i) = (n : Int) :: numsI (m - (out.length + 1)) (l.drop (j + 1)) := by
  obtain ⟨k, hk⟩ : ∃ k, m - out.length = k + 1 := ⟨m - out.length - 1, by omega⟩
  rw [hk, show m - (out.length + 1) = k by omega]
  unfold numsI
  rw [hd, numsOf_yes hb, ← hd, ht, List.map_cons, List.drop_drop]
theorem wrap_dgN {x : UInt8} (h0 : 48 ≤ x.toNat) (h1 : x.toNat ≤ 57) : IntKind.u8.wrap (((x.toNat : Nat) : Int) - 48) = ((x.toNat : Nat) : Int) - 48 := by
  simp [IntKind.wrap, IntKind.signed, IntKind.bits]; omega
theorem numbersOf_A (l : List UInt8) (hl : l.length ≤ 1048577) (m : Nat) (hm : m ≤ 100) (H : Heap) :
    AFunC Tryd.prog 59 [.string (bs l), .int .i64 m] H (.slice (some ⟨H.length, 0, none⟩) (numsI m l).length (numsI m l).length) (H ++ [some ⟨(numsI m l).flatMap nmE, true, 3, 1⟩]) := by
  refine AFunC.of_body Tryd.func59 (by kernel_rfl) rfl (by kernel_rfl) (by simp [Tryd.ntmps59]) ?_
  simp -dsimp -implicitDefEqProofs (disch := omega) [go_sem, -List.getD_eq_getElem?_getD, ite_yes]
  refine ALoop.intro (ι := Nat × List Int) (fun q => q.1 ≤ l.length + 1 ∧ q.2.length ≤ m ∧ q.2 ++ numsI (m - q.2.length) (l.drop q.1) = numsI m l)
    (fun q => [(0, .string (bs l)), (1, .int .i64 m), (5, .slice (some ⟨H.length, 0, none⟩) q.2.length q.2.length), (6, .int .i64 q.1)])
    (fun q => H ++ [some ⟨q.2.flatMap nmE, true, 3, 1⟩]) (fun q => l.length + 1 - q.1) (0, []) ⟨by simp, by simp, by simp⟩ ?_ ?_
  · refine weakS_mk [some 0] rfl ?_ (by simp -dsimp -implicitDefEqProofs (disch := omega) [go_sem, -List.getD_eq_getElem?_getD, ite_yes])
    simp -dsimp -implicitDefEqProofs (disch := omega) [go_sem, -List.getD_eq_getElem?_getD, ite_yes]
    exact .inl ⟨rfl, rfl⟩
  rintro ⟨i, out⟩ ⟨h1, h2, h3⟩
  simp only at h1 h2 h3
  have lf := nmE_length out
  by_cases hlt : i < l.length
  rotate_left
  · have hlti : ¬ (i : Int) < (l.length : Int) := by omega
    rw [List.drop_of_length_le (by omega), show numsI (m - out.length) [] = [] by rw [numsI, numsOf_nil]; rfl, List.append_nil] at h3
    simp -dsimp -implicitDefEqProofs (disch := omega) [go_sem, -List.getD_eq_getElem?_getD, ite_yes, hlt, hlti]
    rw [← h3]
    refine fin_list [some 0] rfl ?_ (by simp -dsimp -implicitDefEqProofs (disch := omega) [go_sem, -List.getD_eq_getElem?_getD, ite_yes])
    simp -dsimp -implicitDefEqProofs (disch := omega) [go_sem, -List.getD_eq_getElem?_getD, ite_yes]
    exact .inl ⟨rfl, nmE_flat _⟩
  have hlti : (i : Int) < (l.length : Int) := by omega
  by_cases hlm : out.length < m
  rotate_left
  · have hlmi : ¬ (out.length : Int) < (m : Int) := by omega
    rw [show m - out.length = 0 by omega, show numsI 0 (l.drop i) = [] by rw [numsI, numsOf_zero]; rfl, List.append_nil] at h3
    simp -dsimp -implicitDefEqProofs (disch := omega) [go_sem, -List.getD_eq_getElem?_getD, ite_yes, hlt, hlti, hlm, hlmi]
    rw [← h3]
    refine fin_list [some 0] rfl ?_ (by simp -dsimp -implicitDefEqProofs (disch := omega) [go_sem, -List.getD_eq_getElem?_getD, ite_yes])
    simp -dsimp -implicitDefEqProofs (disch := omega) [go_sem, -List.getD_eq_getElem?_getD, ite_yes]
    exact .inl ⟨rfl, nmE_flat _⟩
  have hlmi : (out.length : Int) < (m : Int) := by omega
  obtain ⟨y, hy⟩ : ∃ y, l[i] = y := ⟨_, rfl⟩
  have hd : l.drop i = y :: l.drop (i + 1) := by rw [List.drop_eq_getElem_cons hlt, hy]
  cases hdg : isDg y with
  | false =>
    have hno : numsI (m - out.length) (l.drop i) = numsI (m - out.length) (l.drop (i + 1)) := by
      obtain ⟨k, hk⟩ : ∃ k, m - out.length = k + 1 := ⟨m - out.length - 1, by omega⟩
      rw [hk, hd, numsI, numsOf_no hdg, numsI]
    have hbad : ¬ (48 ≤ y.toNat ∧ y.toNat ≤ 57) := fun h => by simp [isDg, h] at hdg
    by_cases d1 : ((y.toNat : Nat) : Int) < 48
    · simp -dsimp -implicitDefEqProofs (disch := omega) [go_sem, -List.getD_eq_getElem?_getD, ite_yes, hlt, hlti, hlm, hlmi, hy, d1]
      refine LoopEnd.of (i + 1, out) ⟨by simp only; omega, h2, by simp only; rw [← hno]; exact h3⟩ (by simp only; omega) (weakS_mk [some 0] rfl ?_ (by simp -dsimp -implicitDefEqProofs (disch := omega) [go_sem, -List.getD_eq_getElem?_getD, ite_yes]))
      simp -dsimp -implicitDefEqProofs (disch := omega) [go_sem, -List.getD_eq_getElem?_getD, ite_yes]
      exact .inl ⟨rfl, nmE_flat _⟩
    · have d2 : (57 : Int) < ((y.toNat : Nat) : Int) := by
        rcases Nat.lt_or_ge 57 y.toNat with h | h
        · omega
        · exact absurd ⟨by omega, h⟩ hbad
      simp -dsimp -implicitDefEqProofs (disch := omega) [go_sem, -List.getD_eq_getElem?_getD, ite_yes, hlt, hlti, hlm, hlmi, hy, d1, d2]
      refine LoopEnd.of (i + 1, out) ⟨by simp only; omega, h2, by simp only; rw [← hno]; exact h3⟩ (by simp only; omega) (weakS_mk [some 0] rfl ?_ (by simp -dsimp -implicitDefEqProofs (disch := omega) [go_sem, -List.getD_eq_getElem?_getD, ite_yes]))
      simp -dsimp -implicitDefEqProofs (disch := omega) [go_sem, -List.getD_eq_getElem?_getD, ite_yes]
      exact .inl ⟨rfl, nmE_flat _⟩
  | true =>
  have hy1 : ¬ ((y.toNat : Nat) : Int) < 48 := by
    simp only [isDg, Bool.and_eq_true, decide_eq_true_eq] at hdg; omega
  have hy2 : ¬ (57 : Int) < ((y.toNat : Nat) : Int) := by
    simp only [isDg, Bool.and_eq_true, decide_eq_true_eq] at hdg; omega
  simp -dsimp -implicitDefEqProofs (disch := omega) [go_sem, -List.getD_eq_getElem?_getD, ite_yes, hlt, hlti, hlm, hlmi, hy, hy1, hy2]
  refine ALoop.intro (ι := Nat × Nat × Nat) (fun q => i ≤ q.1 ∧ q.1 ≤ l.length ∧ q.2.2 ≤ 6 ∧ q.2.1 < 10 ^ q.2.2 ∧ takeNum (6 - q.2.2) q.2.1 (l.drop q.1) = takeNum 6 0 (l.drop i))
    (fun q => [(0, .string (bs l)), (1, .int .i64 m), (5, .slice (some ⟨H.length, 0, none⟩) out.length out.length), (6, .int .i64 q.1), (7, .int .i64 q.2.1), (8, .int .i64 q.2.2)])
    (fun q => H ++ [some ⟨out.flatMap nmE, true, 3, 1⟩]) (fun q => l.length - q.1) (i, 0, 0) ⟨by simp, by simp only; omega, by simp, by simp, rfl⟩ ?_ ?_
  · refine weakS_mk [some 0] rfl ?_ (by simp -dsimp -implicitDefEqProofs (disch := omega) [go_sem, -List.getD_eq_getElem?_getD, ite_yes])
    simp -dsimp -implicitDefEqProofs (disch := omega) [go_sem, -List.getD_eq_getElem?_getD, ite_yes]
    exact .inl ⟨rfl, nmE_flat _⟩
  rintro ⟨j, n, d⟩ ⟨k0, k1, k2, kn, k3⟩
  simp only at k0 k1 k2 kn k3
  have hpw : 10 ^ d ≤ 1000000 := by
    have : d = 0 ∨ d = 1 ∨ d = 2 ∨ d = 3 ∨ d = 4 ∨ d = 5 ∨ d = 6 := by omega
    rcases this with rfl | rfl | rfl | rfl | rfl | rfl | rfl <;> simp
  by_cases jlt : j < l.length
  rotate_left
  · have jlti : ¬ (j : Int) < (l.length : Int) := by omega
    have hnil : l.drop j = [] := List.drop_of_length_le (by omega)
    have et : takeNum 6 0 (l.drop i) = (n, l.drop j) := by rw [← k3]; rw [hnil]; cases 6 - d <;> rfl
    have ei := numsI_next (m := m) hlm hd hdg et
    simp -dsimp -implicitDefEqProofs (disch := omega) [go_sem, -List.getD_eq_getElem?_getD, ite_yes, jlt, jlti, lf]
    refine ⟨by omega, LoopEnd.of (j + 1, out ++ [(n : Int)]) ⟨by simp only; omega, by simp only [List.length_append, List.length_singleton]; omega, by simp only [List.length_append, List.length_singleton]; rw [List.append_assoc, List.singleton_append, ← ei]; exact h3⟩ (by simp only; omega) (weakS_mk [some 2] rfl ?_ (by simp -dsimp -implicitDefEqProofs (disch := omega) [go_sem, -List.getD_eq_getElem?_getD, ite_yes]))⟩
    simp -dsimp -implicitDefEqProofs (disch := omega) [go_sem, -List.getD_eq_getElem?_getD, ite_yes]
    exact .inl ⟨by simp [nmE], by simp [nmE, flat]⟩
  have jlti : (j : Int) < (l.length : Int) := by omega
  obtain ⟨x, hx⟩ : ∃ x, l[j] = x := ⟨_, rfl⟩
  have hdj : l.drop j = x :: l.drop (j + 1) := by rw [List.drop_eq_getElem_cons jlt, hx]
  have hxx := x.toNat_lt
  cases hdx : isDg x with
  | false =>
    have hstop : takeNum (6 - d) n (l.drop j) = (n, l.drop j) := by
      rw [hdj]
      cases 6 - d with
      | zero => rfl
      | succ k => rw [takeNum, if_neg (by simp [hdx])]
    have hbad : ¬ (48 ≤ x.toNat ∧ x.toNat ≤ 57) := fun h => by simp [isDg, h] at hdx
    by_cases d1 : (48 : Int) ≤ ((x.toNat : Nat) : Int)
    · have d2 : ¬ ((x.toNat : Nat) : Int) ≤ 57 := by
        intro h
        exact absurd ⟨by omega, by omega⟩ hbad
      have et : takeNum 6 0 (l.drop i) = (n, l.drop j) := by rw [← k3]; exact hstop
      have ei := numsI_next (m := m) hlm hd hdg et
      simp -dsimp -implicitDefEqProofs (disch := omega) [go_sem, -List.getD_eq_getElem?_getD, ite_yes, jlt, jlti, hx, d1, d2, lf]
      refine ⟨by omega, LoopEnd.of (j + 1, out ++ [(n : Int)]) ⟨by simp only; omega, by simp only [List.length_append, List.length_singleton]; omega, by simp only [List.length_append, List.length_singleton]; rw [List.append_assoc, List.singleton_append, ← ei]; exact h3⟩ (by simp only; omega) (weakS_mk [some 2] rfl ?_ (by simp -dsimp -implicitDefEqProofs (disch := omega) [go_sem, -List.getD_eq_getElem?_getD, ite_yes]))⟩
      simp -dsimp -implicitDefEqProofs (disch := omega) [go_sem, -List.getD_eq_getElem?_getD, ite_yes]
      exact .inl ⟨by simp [nmE], by simp [nmE, flat]⟩
    · have d1 : ¬ (48 : Int) ≤ ((x.toNat : Nat) : Int) := d1
      have et : takeNum 6 0 (l.drop i) = (n, l.drop j) := by rw [← k3]; exact hstop
      have ei := numsI_next (m := m) hlm hd hdg et
      simp -dsimp -implicitDefEqProofs (disch := omega) [go_sem, -List.getD_eq_getElem?_getD, ite_yes, jlt, jlti, hx, d1, lf]
      refine ⟨by omega, LoopEnd.of (j + 1, out ++ [(n : Int)]) ⟨by simp only; omega, by simp only [List.length_append, List.length_singleton]; omega, by simp only [List.length_append, List.length_singleton]; rw [List.append_assoc, List.singleton_append, ← ei]; exact h3⟩ (by simp only; omega) (weakS_mk [some 2] rfl ?_ (by simp -dsimp -implicitDefEqProofs (disch := omega) [go_sem, -List.getD_eq_getElem?_getD, ite_yes]))⟩
      simp -dsimp -implicitDefEqProofs (disch := omega) [go_sem, -List.getD_eq_getElem?_getD, ite_yes]
      exact .inl ⟨by simp [nmE], by simp [nmE, flat]⟩
  | true =>
    have hdx' := hdx
    simp only [isDg, Bool.and_eq_true, decide_eq_true_eq] at hdx'
    have d1 : (48 : Int) ≤ ((x.toNat : Nat) : Int) := by omega
    have d2 : ((x.toNat : Nat) : Int) ≤ 57 := by omega
    by_cases h6 : d < 6
    · have h6i : (d : Int) < 6 := by omega
      have e : (10 * (n : Int) + (((x.toNat : Nat) : Int) - 48)) = ((10 * n + dgV x : Nat) : Int) := by unfold dgV; omega
      have hw := wrap_dgN (x := x) (by omega) (by omega)
      have hp5 : 10 ^ d ≤ 100000 := by
        have : d = 0 ∨ d = 1 ∨ d = 2 ∨ d = 3 ∨ d = 4 ∨ d = 5 := by omega
        rcases this with rfl | rfl | rfl | rfl | rfl | rfl <;> simp
      rw [hdj, show 6 - d = (6 - (d + 1)) + 1 by omega, takeNum, if_pos hdx] at k3
      simp -dsimp -implicitDefEqProofs (disch := omega) [go_sem, -List.getD_eq_getElem?_getD, ite_yes, jlt, jlti, hx, d1, d2, h6, h6i, hw]
      refine LoopEnd.of (j + 1, 10 * n + dgV x, d + 1) ⟨by simp only; omega, by simp only; omega, by simp only; omega, by simp only [Nat.pow_succ]; unfold dgV; omega, k3⟩ (by simp only; omega) (weakS_mk [some 0] rfl ?_ (by simp -dsimp -implicitDefEqProofs (disch := omega) [go_sem, -List.getD_eq_getElem?_getD, ite_yes, ← e]))
      simp -dsimp -implicitDefEqProofs (disch := omega) [go_sem, -List.getD_eq_getElem?_getD, ite_yes]
      exact .inl ⟨rfl, nmE_flat _⟩
    · have h6i : ¬ (d : Int) < 6 := by omega
      obtain rfl : d = 6 := by omega
      have et : takeNum 6 0 (l.drop i) = (n, l.drop j) := by rw [← k3]; rfl
      have ei := numsI_next (m := m) hlm hd hdg et
      simp -dsimp -implicitDefEqProofs (disch := omega) [go_sem, -List.getD_eq_getElem?_getD, ite_yes, jlt, jlti, hx, d1, d2, h6, h6i, lf]
      refine ⟨by omega, LoopEnd.of (j + 1, out ++ [(n : Int)]) ⟨by simp only; omega, by simp only [List.length_append, List.length_singleton]; omega, by simp only [List.length_append, List.length_singleton]; rw [List.append_assoc, List.singleton_append, ← ei]; exact h3⟩ (by simp only; omega) (weakS_mk [some 2] rfl ?_ (by simp -dsimp -implicitDefEqProofs (disch := omega) [go_sem, -List.getD_eq_getElem?_getD, ite_yes]))⟩
      simp -dsimp -implicitDefEqProofs (disch := omega) [go_sem, -List.getD_eq_getElem?_getD, ite_yes]
      exact .inl ⟨by simp [nmE], by simp [nmE, flat]⟩
end Go.Proofs.YthnnbgggfpempaaDoor
