/- The number at the beginning of a text (impl.firstNumber). -/
import Derived.Test.YthnnbgggfpempaaDoorParseN
namespace Go.Proofs.YthnnbgggfpempaaDoor
open Go.Am Go.Lib
set_option linter.unusedVariables false
set_option linter.unusedSimpArgs false
set_option maxRecDepth 100000
set_option maxHeartbeats 1000000
/-- the number of the digits ahead, up to eleven of them, periods left out -/
def fstN : Nat → Nat → List UInt8 → Nat
  | _, n, [] => n
  | d, n, b :: l => if d ≤ 10 ∧ b = 46 then fstN d n l else if d ≤ 10 ∧ isDg b = true then fstN (d + 1) (10 * n + dgV b) l else n
theorem fstN_dot {d n : Nat} {l : List UInt8} (h : d ≤ 10) : fstN d n (46 :: l) = fstN d n l := by rw [fstN, if_pos ⟨h, rfl⟩]
theorem isDg_dot {b : UInt8} (h : isDg b = true) : b ≠ 46 := by rintro rfl; revert h; decide
theorem fstN_dg {d n : Nat} {b : UInt8} {l : List UInt8} (h : d ≤ 10) (hb : isDg b = true) : fstN d n (b :: l) = fstN (d + 1) (10 * n + dgV b) l := by
  rw [fstN, if_neg (fun e => isDg_dot hb e.2), if_pos ⟨h, hb⟩]
theorem fstN_stop {d n : Nat} {b : UInt8} {l : List UInt8} (h : b ≠ 46) (hb : isDg b = false) : fstN d n (b :: l) = n := by
  rw [fstN, if_neg (fun e => h e.2), if_neg (fun e => by rw [hb] at e; cases e.2)]
theorem fstN_full {d n : Nat} {l : List UInt8} (h : ¬ d ≤ 10) : fstN d n l = n := by
  cases l with
  | nil => rfl
  | cons b l => rw [fstN, if_neg (fun e => h e.1), if_neg (fun e => h e.1)]
theorem fstN_word : ∀ (w : List UInt8) (d n : Nat) (l : List UInt8), (∀ b ∈ w, isDg b = true) → d + w.length ≤ 11 → fstN d n (w ++ l) = fstN (d + w.length) (worth n w) l
  | [], d, n, l, _, _ => rfl
  | b :: w, d, n, l, h, hd => by
    simp only [List.length_cons] at hd
    rw [List.cons_append, fstN_dg (by omega) (h b (by simp)), fstN_word w (d + 1) _ l (fun x hx => h x (by simp [hx])) (by omega), worth_cons, List.length_cons]
    congr 1
    omega
theorem wrap_dgF {x : UInt8} (h0 : 48 ≤ x.toNat) (h1 : x.toNat ≤ 57) : IntKind.u8.wrap (((x.toNat : Nat) : Int) - 48) = ((x.toNat : Nat) : Int) - 48 := by
  simp [IntKind.wrap, IntKind.signed, IntKind.bits]; omega
theorem firstNumber_A (l : List UInt8) (hl : l.length ≤ 1048577) (H : Heap) : AFunC Tryd.prog 79 [.string (bs l)] H (.int .i64 (fstN 0 0 l : Nat)) H := by
  refine AFunC.of_body Tryd.func79 (by kernel_rfl) rfl (by kernel_rfl) (by simp [Tryd.ntmps79]) ?_
  simp -dsimp -implicitDefEqProofs (disch := omega) [go_sem, -List.getD_eq_getElem?_getD, ite_yes]
  refine ALoop.intro (ι := Nat × Nat × Nat) (fun q => q.1 ≤ l.length ∧ q.2.2 ≤ 11 ∧ q.2.1 < 10 ^ q.2.2 ∧ fstN q.2.2 q.2.1 (l.drop q.1) = fstN 0 0 l)
    (fun q => [(0, .string (bs l)), (3, .int .i64 q.2.1), (4, .int .i64 q.2.2), (5, .int .i64 q.1)]) (fun _ => H) (fun q => l.length - q.1) (0, 0, 0) ⟨by simp, by simp, by simp, by simp⟩ ?_ ?_
  · exact weakS_same (by simp -dsimp -implicitDefEqProofs (disch := omega) [go_sem, -List.getD_eq_getElem?_getD, ite_yes])
  rintro ⟨i, n, d⟩ ⟨h1, h2, hn, h3⟩
  simp only at h1 h2 hn h3
  have hpw : 10 ^ d ≤ 100000000000 := Nat.pow_le_pow_right (by omega) h2
  by_cases hlt : i < l.length
  rotate_left
  · obtain rfl : i = l.length := by omega
    have hlti : ¬ (l.length : Int) < (l.length : Int) := by omega
    rw [List.drop_length, fstN] at h3
    simp -dsimp -implicitDefEqProofs (disch := omega) [go_sem, -List.getD_eq_getElem?_getD, ite_yes, hlt, hlti]
    exact fin_flat0 rfl (by rw [h3])
  have hlti : (i : Int) < (l.length : Int) := by omega
  by_cases hd : d ≤ 10
  rotate_left
  · have hdi : ¬ (d : Int) ≤ 10 := by omega
    rw [fstN_full hd] at h3
    simp -dsimp -implicitDefEqProofs (disch := omega) [go_sem, -List.getD_eq_getElem?_getD, ite_yes, hlt, hlti, hd, hdi]
    exact fin_flat0 rfl (by rw [h3])
  have hdi : (d : Int) ≤ 10 := by omega
  have hp2 : 10 ^ d ≤ 10000000000 := Nat.pow_le_pow_right (by omega) hd
  obtain ⟨x, hx⟩ : ∃ x, l[i] = x := ⟨_, rfl⟩
  have hxx := x.toNat_lt
  rw [show l.drop i = x :: l.drop (i + 1) by rw [List.drop_eq_getElem_cons hlt, hx]] at h3
  by_cases hdot : x = 46
  · subst hdot
    have hxi : (((46 : UInt8).toNat : Nat) : Int) = 46 := rfl
    rw [fstN_dot hd] at h3
    simp -dsimp -implicitDefEqProofs (disch := omega) [go_sem, -List.getD_eq_getElem?_getD, ite_yes, hlt, hlti, hd, hdi, hx, hxi]
    exact LoopEnd.of (i + 1, n, d) ⟨by simp only; omega, h2, hn, h3⟩ (by simp only; omega) (weakS_same (by simp -dsimp -implicitDefEqProofs (disch := omega) [go_sem, -List.getD_eq_getElem?_getD, ite_yes]))
  have hxi : ¬ ((x.toNat : Nat) : Int) = 46 := fun e => hdot (UInt8.toNat_inj.1 (by
    have : (46 : UInt8).toNat = 46 := rfl
    omega))
  cases hdg : isDg x with
  | true =>
    rw [fstN_dg hd hdg] at h3
    simp only [isDg, Bool.and_eq_true, decide_eq_true_eq] at hdg
    have d1 : (48 : Int) ≤ ((x.toNat : Nat) : Int) := by omega
    have d2 : ((x.toNat : Nat) : Int) ≤ 57 := by omega
    have e : (10 * (n : Int) + (((x.toNat : Nat) : Int) - 48)) = ((10 * n + dgV x : Nat) : Int) := by unfold dgV; omega
    have hw := wrap_dgF (x := x) (by omega) (by omega)
    simp -dsimp -implicitDefEqProofs (disch := omega) [go_sem, -List.getD_eq_getElem?_getD, ite_yes, hlt, hlti, hd, hdi, hx, hxi, d1, d2, hw]
    exact LoopEnd.of (i + 1, 10 * n + dgV x, d + 1) ⟨by simp only; omega, by simp only; omega, by simp only [Nat.pow_succ]; unfold dgV; omega, h3⟩ (by simp only; omega) (weakS_same (by simp -dsimp -implicitDefEqProofs (disch := omega) [go_sem, -List.getD_eq_getElem?_getD, ite_yes, ← e]))
  | false =>
    rw [fstN_stop hdot hdg] at h3
    have hbad : ¬ (48 ≤ x.toNat ∧ x.toNat ≤ 57) := fun h => by simp [isDg, h] at hdg
    by_cases d1 : (48 : Int) ≤ ((x.toNat : Nat) : Int)
    · have d2 : ¬ ((x.toNat : Nat) : Int) ≤ 57 := fun h => absurd ⟨by omega, by omega⟩ hbad
      simp -dsimp -implicitDefEqProofs (disch := omega) [go_sem, -List.getD_eq_getElem?_getD, ite_yes, hlt, hlti, hd, hdi, hx, hxi, d1, d2]
      exact fin_flat0 rfl (by rw [h3])
    · simp -dsimp -implicitDefEqProofs (disch := omega) [go_sem, -List.getD_eq_getElem?_getD, ite_yes, hlt, hlti, hd, hdi, hx, hxi, d1]
      exact fin_flat0 rfl (by rw [h3])
end Go.Proofs.YthnnbgggfpempaaDoor
