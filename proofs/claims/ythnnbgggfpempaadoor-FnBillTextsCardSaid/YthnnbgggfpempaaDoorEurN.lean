/- What the readers of amounts compute: no program in sight, and the reference's reader. -/
import Derived.Test.YthnnbgggfpempaaDoorRead
namespace Go.Proofs.YthnnbgggfpempaaDoor
open Go.Am Go.Lib
set_option linter.unusedVariables false
set_option linter.unusedSimpArgs false
set_option maxRecDepth 100000
set_option maxHeartbeats 1000000
/-- what is left of the digits at place i, the one at place n left out -/
def eurR (l : List UInt8) (n i : Nat) : List UInt8 := if i ≤ n then (l.take n).drop i ++ l.drop (n + 1) else l.drop i
theorem eurR_at {l : List UInt8} {n i : Nat} (h : n ≤ l.length) (e : i = n) : eurR l n i = eurR l n (i + 1) := by
  subst e
  rw [eurR, if_pos (Nat.le_refl _), eurR, if_neg (by omega), List.drop_of_length_le (by simp; omega), List.nil_append]
theorem eurR_next {l : List UInt8} {n i : Nat} (hi : i < l.length) (e : i ≠ n) : eurR l n i = l[i] :: eurR l n (i + 1) := by
  by_cases h : i < n
  · rw [eurR, if_pos (by omega), eurR, if_pos (by omega), List.drop_eq_getElem_cons (by simp; omega)]
    simp
  · rw [eurR, if_neg (by omega), eurR, if_neg (by omega), List.drop_eq_getElem_cons hi]
theorem eurR_end {l : List UInt8} {n : Nat} (h : n < l.length) : eurR l n l.length = [] := by rw [eurR, if_neg (by omega), List.drop_length]
/-- the cents of an amount in euros -/
def eurN (l : List UInt8) : Int × Bool :=
  if 4 ≤ l.length ∧ l.length ≤ 11 ∧ l[l.length - 3]? = some 46 then (match readV 0 (eurR l (l.length - 3) 0) with
    | some v => ((v : Int), true)
    | none => (0, false)) else (0, false)
theorem eurN_bad {l : List UInt8} (h : ¬ (4 ≤ l.length ∧ l.length ≤ 11 ∧ l[l.length - 3]? = some 46)) : eurN l = (0, false) := if_neg h
theorem eurN_some {l : List UInt8} {v : Nat} (h : 4 ≤ l.length ∧ l.length ≤ 11 ∧ l[l.length - 3]? = some 46) (hv : readV 0 (eurR l (l.length - 3) 0) = some v) : eurN l = ((v : Int), true) := by rw [eurN, if_pos h, hv]
theorem eurN_none {l : List UInt8} (hv : readV 0 (eurR l (l.length - 3) 0) = none) : eurN l = (0, false) := by
  rw [eurN, hv]; split <;> rfl
theorem l20Read_A (l : List UInt8) (hl : l.length ≤ 1048577) (H : Heap) : AFunC Tryd.prog 82 [.string (bs l)] H (.tuple #[.int .i64 (eurN l).1, .bool (eurN l).2]) H := by
  refine AFunC.of_body Tryd.func82 (by kernel_rfl) rfl (by kernel_rfl) (by simp [Tryd.ntmps82]) ?_
  simp -dsimp -implicitDefEqProofs (disch := omega) [go_sem, -List.getD_eq_getElem?_getD, ite_yes]
  refine ACall.of (l1In_A _ _ _ _) ?_
  by_cases hlen : 4 ≤ l.length ∧ l.length ≤ 11
  rotate_left
  · have hb : inB ((l.length : Int) - 3) 1 8 = false := by
      simp only [inB, Bool.and_eq_false_iff, decide_eq_false_iff_not]; omega
    simp -dsimp -implicitDefEqProofs (disch := omega) [go_sem, -List.getD_eq_getElem?_getD, ite_yes, hb]
    exact fin_flat0 rfl (by rw [eurN_bad (by omega)])
  have hb : inB ((l.length : Int) - 3) 1 8 = true := by
    simp only [inB, Bool.and_eq_true, decide_eq_true_eq]; omega
  have hn : ((l.length : Int) - 3).toNat = l.length - 3 := by omega
  have hn3 : (l.length : Int) - 3 = ((l.length - 3 : Nat) : Int) := by omega
  have hnl : l.length - 3 < l.length := by omega
  obtain ⟨d, hd⟩ : ∃ d, l[l.length - 3] = d := ⟨_, rfl⟩
  have hdd := d.toNat_lt
  rw [hn3] at hb ⊢
  generalize hnn : l.length - 3 = n at hb hn hnl hd
  by_cases hdot : d = 46
  rotate_left
  · have hdi : ¬ ((d.toNat : Nat) : Int) = 46 := fun e => hdot (UInt8.toNat_inj.1 (by
      have : (46 : UInt8).toNat = 46 := rfl
      omega))
    simp -dsimp -implicitDefEqProofs (disch := omega) [go_sem, -List.getD_eq_getElem?_getD, ite_yes, hb, hn, hnl, hd, hdi]
    exact fin_flat0 rfl (by rw [eurN_bad (by rw [hnn]; rintro ⟨_, _, h⟩; rw [List.getElem?_eq_getElem hnl, hd] at h; cases h; exact hdot rfl)])
  have hdi : ((d.toNat : Nat) : Int) = 46 := by rw [hdot]; rfl
  have hok : 4 ≤ l.length ∧ l.length ≤ 11 ∧ l[l.length - 3]? = some 46 := ⟨hlen.1, hlen.2, by rw [hnn, List.getElem?_eq_getElem hnl, hd, hdot]⟩
  simp -dsimp -implicitDefEqProofs (disch := omega) [go_sem, -List.getD_eq_getElem?_getD, ite_yes, hb, hn, hnl, hd, hdi]
  refine ALoop.intro (ι := Nat × Nat) (fun q => q.1 ≤ l.length ∧ q.2 < 10 ^ q.1 ∧ readV q.2 (eurR l n q.1) = readV 0 (eurR l n 0))
    (fun q => [(0, .string (bs l)), (4, .int .i64 n), (5, .int .i64 q.2), (6, .int .i64 q.1)]) (fun _ => H) (fun q => l.length - q.1) (0, 0) ⟨by simp, by simp, rfl⟩ ?_ ?_
  · exact weakS_same (by simp -dsimp -implicitDefEqProofs (disch := omega) [go_sem, -List.getD_eq_getElem?_getD, ite_yes])
  rintro ⟨i, v⟩ ⟨h1, h2, h3⟩
  simp only at h1 h2 h3
  have hpw : 10 ^ i ≤ 100000000000 := Nat.pow_le_pow_right (by omega) (show i ≤ 11 by omega)
  by_cases hlt : i < l.length
  · have hlti : (i : Int) < (l.length : Int) := by omega
    by_cases hin : i = n
    · subst hin
      rw [eurR_at (by omega) rfl] at h3
      simp -dsimp -implicitDefEqProofs (disch := omega) [go_sem, -List.getD_eq_getElem?_getD, ite_yes, hlt, hlti]
      exact LoopEnd.of (i + 1, v) ⟨by simp only; omega, by simp only [Nat.pow_succ]; omega, h3⟩ (by simp only; omega) (weakS_same (by simp -dsimp -implicitDefEqProofs (disch := omega) [go_sem, -List.getD_eq_getElem?_getD, ite_yes]))
    have hini : ¬ (i : Int) = (n : Int) := by omega
    obtain ⟨x, hx⟩ : ∃ x, l[i] = x := ⟨_, rfl⟩
    have hxx := x.toNat_lt
    rw [eurR_next hlt hin, hx] at h3
    cases hdg : isDg x with
    | true =>
      rw [readV, if_pos hdg] at h3
      simp only [isDg, Bool.and_eq_true, decide_eq_true_eq] at hdg
      have d1 : ¬ ((x.toNat : Nat) : Int) < 48 := by omega
      have d2 : ¬ (57 : Int) < ((x.toNat : Nat) : Int) := by omega
      have e : (10 * (v : Int) + ((x.toNat : Nat) : Int) - 48) = ((10 * v + dgV x : Nat) : Int) := by unfold dgV; omega
      simp -dsimp -implicitDefEqProofs (disch := omega) [go_sem, -List.getD_eq_getElem?_getD, ite_yes, hlt, hlti, hx, d1, d2, hin, hini]
      refine LoopEnd.of (i + 1, 10 * v + dgV x) ⟨by simp only; omega, by simp only [Nat.pow_succ]; unfold dgV; omega, h3⟩ (by simp only; omega) (weakS_same (by simp -dsimp -implicitDefEqProofs (disch := omega) [go_sem, -List.getD_eq_getElem?_getD, ite_yes, ← e]))
    | false =>
      rw [readV, if_neg (by simp [hdg])] at h3
      have hbad : ¬ (48 ≤ x.toNat ∧ x.toNat ≤ 57) := fun h => by simp [isDg, h] at hdg
      have eb : eurN l = (0, false) := eurN_none (by rw [hnn]; exact h3.symm)
      by_cases d1 : ((x.toNat : Nat) : Int) < 48
      · simp -dsimp -implicitDefEqProofs (disch := omega) [go_sem, -List.getD_eq_getElem?_getD, ite_yes, hlt, hlti, hx, d1, hin, hini]
        exact fin_flat0 rfl (by rw [eb])
      · have d2 : (57 : Int) < ((x.toNat : Nat) : Int) := by
          rcases Nat.lt_or_ge 57 x.toNat with h | h
          · omega
          · exact absurd ⟨by omega, h⟩ hbad
        simp -dsimp -implicitDefEqProofs (disch := omega) [go_sem, -List.getD_eq_getElem?_getD, ite_yes, hlt, hlti, hx, d1, d2, hin, hini]
        exact fin_flat0 rfl (by rw [eb])
  · obtain rfl : i = l.length := by omega
    have hlti : ¬ (l.length : Int) < (l.length : Int) := by omega
    rw [eurR_end hnl, readV] at h3
    simp -dsimp -implicitDefEqProofs (disch := omega) [go_sem, -List.getD_eq_getElem?_getD, ite_yes, hlt, hlti]
    exact fin_flat0 rfl (by rw [eurN_some hok (by rw [hnn]; exact h3.symm)])
end Go.Proofs.YthnnbgggfpempaaDoor
