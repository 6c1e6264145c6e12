/- The number of a text, in the reference. -/
import Derived.Test.YthnnbgggfpempaaDoorParseN
import Derived.Test.YthnnbgggfpempaaDoorNum
import Derived.Test.YthnnbgggfpempaaDoorDays
namespace Go.Proofs.YthnnbgggfpempaaDoor
open Go.Am Go.Lib
set_option linter.unusedVariables false
set_option linter.unusedSimpArgs false
set_option maxRecDepth 100000
set_option maxHeartbeats 1000000
/-- the number that bytes are worth, behind n, if all are digits -/
def readV : Nat → List UInt8 → Option Nat
  | n, [] => some n
  | n, b :: l => if isDg b = true then readV (10 * n + dgV b) l else none
/-- the text without its sign -/
def readT (l : List UInt8) : List UInt8 := match l with
  | 45 :: b :: t => b :: t
  | l => l
theorem readT_neg {t : List UInt8} (h : t ≠ []) : readT (45 :: t) = t := by
  cases t with
  | nil => exact absurd rfl h
  | cons b t => rfl
theorem readT_pos {l : List UInt8} (h : ∀ t, l = 45 :: t → t = []) : readT l = l := by
  unfold readT
  split
  · rename_i b t; exact absurd (h _ rfl) (by simp)
  · rfl
noncomputable def readN (l : List UInt8) : Int × Bool :=
  if 1 ≤ (readT l).length ∧ (readT l).length ≤ 6 then
    (match readV 0 (readT l) with
    | some n => if itoa (if (readT l).length < l.length then -(n : Int) else n) = l then ((if (readT l).length < l.length then -(n : Int) else n), true) else (0, false)
    | none => (0, false))
  else (0, false)
theorem readN_bad {l t : List UInt8} (ht : readT l = t) (h : ¬ (1 ≤ t.length ∧ t.length ≤ 6)) : readN l = (0, false) := by rw [readN, ht, if_neg h]
theorem readN_none {l t : List UInt8} (ht : readT l = t) (h : readV 0 t = none) : readN l = (0, false) := by
  rw [readN, ht, h]; simp
theorem readN_some {l t : List UInt8} {n : Nat} (ht : readT l = t) (hl : 1 ≤ t.length ∧ t.length ≤ 6) (h : readV 0 t = some n) : readN l = if itoa (if t.length < l.length then -(n : Int) else n) = l then ((if t.length < l.length then -(n : Int) else n), true) else (0, false) := by
  rw [readN, ht, if_pos hl, h]
theorem readV_word : ∀ (w : List UInt8) (n : Nat), (∀ b ∈ w, isDg b = true) → readV n w = some (worth n w)
  | [], n, _ => rfl
  | b :: w, n, h => by rw [readV, if_pos (h b (by simp)), readV_word w _ fun x hx => h x (by simp [hx]), worth_cons]
theorem readN_dec {n : Nat} (h : n < 1000000) : readN (decDigits n) = ((n : Int), true) := by
  have hd := dec_all n
  have hne := dec_ne n
  have ht : readT (decDigits n) = decDigits n := readT_pos fun t e => by
    rw [e] at hd
    have := hd 45 (by simp)
    simp [isDg] at this
  have hlen := dec_len_le (k := 5) (n := n) (by omega)
  have h1 : 1 ≤ (decDigits n).length := by
    cases hq : decDigits n with
    | nil => exact absurd hq hne
    | cons _ _ => simp
  rw [readN_some ht ⟨h1, hlen⟩ (readV_word _ 0 hd), worth_dec, if_neg (Nat.lt_irrefl _), if_pos (by rw [itoa, if_neg (by omega), Int.toNat_natCast])]
theorem wrap_dg {x : UInt8} (h0 : 48 ≤ x.toNat) (h1 : x.toNat ≤ 57) : IntKind.u8.wrap (((x.toNat : Nat) : Int) - 48) = ((x.toNat : Nat) : Int) - 48 := by
  simp [IntKind.wrap, IntKind.signed, IntKind.bits]; omega
theorem l1Read_A (l : List UInt8) (hl : l.length ≤ 1048577) (H : Heap) : AFunC Tryd.prog 63 [.string (bs l)] H (.tuple #[.int .i64 (readN l).1, .bool (readN l).2]) H := by
  refine AFunC.of_body Tryd.func63 (by kernel_rfl) rfl (by kernel_rfl) (by simp [Tryd.ntmps63]) ?_
  by_cases hneg : ∃ t, l = 45 :: t ∧ t ≠ []
  · obtain ⟨t, ht, ht2⟩ := hneg
    have ht0 : 1 < l.length := by
      rw [ht]
      cases t with
      | nil => exact absurd rfl ht2
      | cons _ _ => simp
    have ht1 : l[0] = 45 := by simp [ht]
    have ht0i : (1 : Int) < (l.length : Int) := by omega
    have ht3 : List.drop 1 l = t := by rw [ht]; rfl
    simp -dsimp -implicitDefEqProofs (disch := omega) [go_sem, -List.getD_eq_getElem?_getD, ite_yes, ht0, ht0i, ht1, ht3]
    refine ACall.of (l1In_A _ _ _ _) ?_
    simp -dsimp -implicitDefEqProofs (disch := omega) [go_sem, -List.getD_eq_getElem?_getD, ite_yes]
    refine AIf.of (fun hin => ?_) (fun hin => ?_)
    · simp -dsimp -implicitDefEqProofs (disch := omega) [go_sem, -List.getD_eq_getElem?_getD, ite_yes]
      refine fin_flat0 rfl ?_
      rw [readN_bad (t := t) (by rw [ht]; exact readT_neg ht2) (by simp only [inB, Bool.not_eq_true', Bool.and_eq_false_iff, decide_eq_false_iff_not] at hin; omega)]
    have hlen : 1 ≤ t.length ∧ t.length ≤ 6 := by
      simp only [inB, Bool.not_eq_false', Bool.and_eq_true, decide_eq_true_eq] at hin
      omega
    simp -dsimp -implicitDefEqProofs (disch := omega) [go_sem, -List.getD_eq_getElem?_getD, ite_yes]
    refine ALoop.intro (ι := Nat × Nat) (fun q => q.1 ≤ t.length ∧ q.2 < 10 ^ q.1 ∧ readV q.2 (t.drop q.1) = readV 0 t)
      (fun q => [(0, .string (bs l)), (4, .string (bs t)), (5, .int .i64 q.2), (6, .int .i64 q.1)]) (fun _ => H) (fun q => t.length - q.1) (0, 0) ⟨by simp, by simp, by simp⟩ ?_ ?_
    · exact weakS_same (by simp -dsimp -implicitDefEqProofs (disch := omega) [go_sem, -List.getD_eq_getElem?_getD, ite_yes])
    rintro ⟨i, n⟩ ⟨h1, h2, h3⟩
    simp only at h1 h2 h3
    by_cases hlt : i < t.length
    · have hlti : (i : Int) < (t.length : Int) := by omega
      obtain ⟨x, hx⟩ : ∃ x, t[i] = x := ⟨_, rfl⟩
      have hd : t.drop i = x :: t.drop (i + 1) := by rw [List.drop_eq_getElem_cons hlt, hx]
      rw [hd] at h3
      have hxx := x.toNat_lt
      have hpw : 10 ^ i ≤ 100000 := by
        have : i = 0 ∨ i = 1 ∨ i = 2 ∨ i = 3 ∨ i = 4 ∨ i = 5 := by omega
        rcases this with rfl | rfl | rfl | rfl | rfl | rfl <;> simp
      cases hdg : isDg x with
      | true =>
        rw [readV, if_pos hdg] at h3
        simp only [isDg, Bool.and_eq_true, decide_eq_true_eq] at hdg
        have d1 : ¬ ((x.toNat : Nat) : Int) < 48 := by omega
        have d2 : ¬ (57 : Int) < ((x.toNat : Nat) : Int) := by omega
        have e : (10 * (n : Int) + (((x.toNat : Nat) : Int) - 48)) = ((10 * n + dgV x : Nat) : Int) := by unfold dgV; omega
        have hw := wrap_dg (x := x) (by omega) (by omega)
        simp -dsimp -implicitDefEqProofs (disch := omega) [go_sem, -List.getD_eq_getElem?_getD, ite_yes, hlt, hlti, hx, d1, d2, hw]
        refine LoopEnd.of (i + 1, 10 * n + dgV x) ⟨by simp only; omega, by simp only [Nat.pow_succ]; unfold dgV; omega, h3⟩ (by simp only; omega) (weakS_same (by simp -dsimp -implicitDefEqProofs (disch := omega) [go_sem, -List.getD_eq_getElem?_getD, ite_yes, ← e]))
      | false =>
        rw [readV, if_neg (by simp [hdg])] at h3
        have hbad : ¬ (48 ≤ x.toNat ∧ x.toNat ≤ 57) := fun h => by simp [isDg, h] at hdg
        have eb : readN l = (0, false) := readN_none (t := t) (by rw [ht]; exact readT_neg ht2) h3.symm
        by_cases d1 : ((x.toNat : Nat) : Int) < 48
        · simp -dsimp -implicitDefEqProofs (disch := omega) [go_sem, -List.getD_eq_getElem?_getD, ite_yes, hlt, hlti, hx, d1]
          exact fin_flat0 rfl (by rw [eb])
        · have d2 : (57 : Int) < ((x.toNat : Nat) : Int) := by
            rcases Nat.lt_or_ge 57 x.toNat with h | h
            · omega
            · exact absurd ⟨by omega, h⟩ hbad
          simp -dsimp -implicitDefEqProofs (disch := omega) [go_sem, -List.getD_eq_getElem?_getD, ite_yes, hlt, hlti, hx, d1, d2]
          exact fin_flat0 rfl (by rw [eb])
    · obtain rfl : i = t.length := by omega
      have hlti : ¬ (t.length : Int) < (t.length : Int) := by omega
      rw [List.drop_length, readV] at h3
      have hpw : 10 ^ t.length ≤ 1000000 := by
        have : t.length = 1 ∨ t.length = 2 ∨ t.length = 3 ∨ t.length = 4 ∨ t.length = 5 ∨ t.length = 6 := by omega
        rcases this with h | h | h | h | h | h <;> rw [h] <;> simp
      have es := readN_some (l := l) (t := t) (by rw [ht]; exact readT_neg ht2) hlen h3.symm
      have hll : t.length < l.length := by rw [ht]; simp
      have hlli : (t.length : Int) < (l.length : Int) := by omega
      rw [if_pos hll] at es
      simp -dsimp -implicitDefEqProofs (disch := omega) [go_sem, -List.getD_eq_getElem?_getD, ite_yes, hlt, hlti, hll, hlli]
      refine ACall.of (l1Num_A (-(n : Int)) (by omega) (by omega) _) ?_
      by_cases eq : itoa (-(n : Int)) = l
      · rw [if_pos eq] at es
        simp -dsimp -implicitDefEqProofs (disch := omega) [go_sem, -List.getD_eq_getElem?_getD, ite_yes, eq]
        exact fin_flat0 rfl (by rw [es])
      · rw [if_neg eq] at es
        have eqb := beq_false_of_ne eq
        simp -dsimp -implicitDefEqProofs (disch := omega) [go_sem, -List.getD_eq_getElem?_getD, ite_yes, eq, eqb]
        exact fin_flat0 rfl (by rw [es])
  · have hpos : ∀ t, l = 45 :: t → t = [] := fun t e => by
      cases t with
      | nil => rfl
      | cons b t => exact absurd ⟨_, e, by simp⟩ hneg
    by_cases h1 : 1 < l.length
    · have h1i : (1 : Int) < (l.length : Int) := by omega
      have hx0 : ¬ (((l[0]).toNat : Nat) : Int) = 45 := fun e => by
        have e2 : l[0] = 45 := UInt8.toNat_inj.1 (by
          have : (45 : UInt8).toNat = 45 := rfl
          omega)
        have := hpos (l.drop 1) (by
          have h0 := List.drop_eq_getElem_cons (l := l) (i := 0) (by omega)
          rw [List.drop_zero, e2] at h0
          exact h0)
        have h2 := congrArg List.length this
        simp at h2
        omega
      simp -dsimp -implicitDefEqProofs (disch := omega) [go_sem, -List.getD_eq_getElem?_getD, ite_yes, h1, h1i, hx0]
      refine ACall.of (l1In_A _ _ _ _) ?_
      simp -dsimp -implicitDefEqProofs (disch := omega) [go_sem, -List.getD_eq_getElem?_getD, ite_yes]
      refine AIf.of (fun hin => ?_) (fun hin => ?_)
      · simp -dsimp -implicitDefEqProofs (disch := omega) [go_sem, -List.getD_eq_getElem?_getD, ite_yes]
        refine fin_flat0 rfl ?_
        rw [readN_bad (t := l) (readT_pos hpos) (by simp only [inB, Bool.not_eq_true', Bool.and_eq_false_iff, decide_eq_false_iff_not] at hin; omega)]
      have hlen : 1 ≤ l.length ∧ l.length ≤ 6 := by
        simp only [inB, Bool.not_eq_false', Bool.and_eq_true, decide_eq_true_eq] at hin
        omega
      simp -dsimp -implicitDefEqProofs (disch := omega) [go_sem, -List.getD_eq_getElem?_getD, ite_yes]
      refine ALoop.intro (ι := Nat × Nat) (fun q => q.1 ≤ l.length ∧ q.2 < 10 ^ q.1 ∧ readV q.2 (l.drop q.1) = readV 0 l)
        (fun q => [(0, .string (bs l)), (4, .string (bs l)), (5, .int .i64 q.2), (6, .int .i64 q.1)]) (fun _ => H) (fun q => l.length - q.1) (0, 0) ⟨by simp, by simp, by simp⟩ ?_ ?_
      · exact weakS_same (by simp -dsimp -implicitDefEqProofs (disch := omega) [go_sem, -List.getD_eq_getElem?_getD, ite_yes])
      rintro ⟨i, n⟩ ⟨h1, h2, h3⟩
      simp only at h1 h2 h3
      by_cases hlt : i < l.length
      · have hlti : (i : Int) < (l.length : Int) := by omega
        obtain ⟨x, hx⟩ : ∃ x, l[i] = x := ⟨_, rfl⟩
        have hd : l.drop i = x :: l.drop (i + 1) := by rw [List.drop_eq_getElem_cons hlt, hx]
        rw [hd] at h3
        have hxx := x.toNat_lt
        have hpw : 10 ^ i ≤ 100000 := by
          have : i = 0 ∨ i = 1 ∨ i = 2 ∨ i = 3 ∨ i = 4 ∨ i = 5 := by omega
          rcases this with rfl | rfl | rfl | rfl | rfl | rfl <;> simp
        cases hdg : isDg x with
        | true =>
          rw [readV, if_pos hdg] at h3
          simp only [isDg, Bool.and_eq_true, decide_eq_true_eq] at hdg
          have d1 : ¬ ((x.toNat : Nat) : Int) < 48 := by omega
          have d2 : ¬ (57 : Int) < ((x.toNat : Nat) : Int) := by omega
          have e : (10 * (n : Int) + (((x.toNat : Nat) : Int) - 48)) = ((10 * n + dgV x : Nat) : Int) := by unfold dgV; omega
          have hw := wrap_dg (x := x) (by omega) (by omega)
          simp -dsimp -implicitDefEqProofs (disch := omega) [go_sem, -List.getD_eq_getElem?_getD, ite_yes, hlt, hlti, hx, d1, d2, hw]
          refine LoopEnd.of (i + 1, 10 * n + dgV x) ⟨by simp only; omega, by simp only [Nat.pow_succ]; unfold dgV; omega, h3⟩ (by simp only; omega) (weakS_same (by simp -dsimp -implicitDefEqProofs (disch := omega) [go_sem, -List.getD_eq_getElem?_getD, ite_yes, ← e]))
        | false =>
          rw [readV, if_neg (by simp [hdg])] at h3
          have hbad : ¬ (48 ≤ x.toNat ∧ x.toNat ≤ 57) := fun h => by simp [isDg, h] at hdg
          have eb : readN l = (0, false) := readN_none (t := l) (readT_pos hpos) h3.symm
          by_cases d1 : ((x.toNat : Nat) : Int) < 48
          · simp -dsimp -implicitDefEqProofs (disch := omega) [go_sem, -List.getD_eq_getElem?_getD, ite_yes, hlt, hlti, hx, d1]
            exact fin_flat0 rfl (by rw [eb])
          · have d2 : (57 : Int) < ((x.toNat : Nat) : Int) := by
              rcases Nat.lt_or_ge 57 x.toNat with h | h
              · omega
              · exact absurd ⟨by omega, h⟩ hbad
            simp -dsimp -implicitDefEqProofs (disch := omega) [go_sem, -List.getD_eq_getElem?_getD, ite_yes, hlt, hlti, hx, d1, d2]
            exact fin_flat0 rfl (by rw [eb])
      · obtain rfl : i = l.length := by omega
        have hlti : ¬ (l.length : Int) < (l.length : Int) := by omega
        rw [List.drop_length, readV] at h3
        have hpw : 10 ^ l.length ≤ 1000000 := by
          have : l.length = 1 ∨ l.length = 2 ∨ l.length = 3 ∨ l.length = 4 ∨ l.length = 5 ∨ l.length = 6 := by omega
          rcases this with h | h | h | h | h | h <;> rw [h] <;> simp
        have es := readN_some (l := l) (t := l) (readT_pos hpos) hlen h3.symm
        rw [if_neg (Nat.lt_irrefl _)] at es
        simp -dsimp -implicitDefEqProofs (disch := omega) [go_sem, -List.getD_eq_getElem?_getD, ite_yes, hlt, hlti]
        refine ACall.of (l1Num_A (n : Int) (by omega) (by omega) _) ?_
        by_cases eq : itoa (n : Int) = l
        · rw [if_pos eq] at es
          simp -dsimp -implicitDefEqProofs (disch := omega) [go_sem, -List.getD_eq_getElem?_getD, ite_yes, eq]
          exact fin_flat0 rfl (by rw [es])
        · rw [if_neg eq] at es
          have eqb := beq_false_of_ne eq
          simp -dsimp -implicitDefEqProofs (disch := omega) [go_sem, -List.getD_eq_getElem?_getD, ite_yes, eq, eqb]
          exact fin_flat0 rfl (by rw [es])
    · have h1i : ¬ (1 : Int) < (l.length : Int) := by omega
      simp -dsimp -implicitDefEqProofs (disch := omega) [go_sem, -List.getD_eq_getElem?_getD, ite_yes, h1, h1i]
      refine ACall.of (l1In_A _ _ _ _) ?_
      simp -dsimp -implicitDefEqProofs (disch := omega) [go_sem, -List.getD_eq_getElem?_getD, ite_yes]
      refine AIf.of (fun hin => ?_) (fun hin => ?_)
      · simp -dsimp -implicitDefEqProofs (disch := omega) [go_sem, -List.getD_eq_getElem?_getD, ite_yes]
        refine fin_flat0 rfl ?_
        rw [readN_bad (t := l) (readT_pos hpos) (by simp only [inB, Bool.not_eq_true', Bool.and_eq_false_iff, decide_eq_false_iff_not] at hin; omega)]
      have hlen : 1 ≤ l.length ∧ l.length ≤ 6 := by
        simp only [inB, Bool.not_eq_false', Bool.and_eq_true, decide_eq_true_eq] at hin
        omega
      simp -dsimp -implicitDefEqProofs (disch := omega) [go_sem, -List.getD_eq_getElem?_getD, ite_yes]
      refine ALoop.intro (ι := Nat × Nat) (fun q => q.1 ≤ l.length ∧ q.2 < 10 ^ q.1 ∧ readV q.2 (l.drop q.1) = readV 0 l)
        (fun q => [(0, .string (bs l)), (4, .string (bs l)), (5, .int .i64 q.2), (6, .int .i64 q.1)]) (fun _ => H) (fun q => l.length - q.1) (0, 0) ⟨by simp, by simp, by simp⟩ ?_ ?_
      · exact weakS_same (by simp -dsimp -implicitDefEqProofs (disch := omega) [go_sem, -List.getD_eq_getElem?_getD, ite_yes])
      rintro ⟨i, n⟩ ⟨h1, h2, h3⟩
      simp only at h1 h2 h3
      by_cases hlt : i < l.length
      · have hlti : (i : Int) < (l.length : Int) := by omega
        obtain ⟨x, hx⟩ : ∃ x, l[i] = x := ⟨_, rfl⟩
        have hd : l.drop i = x :: l.drop (i + 1) := by rw [List.drop_eq_getElem_cons hlt, hx]
        rw [hd] at h3
        have hxx := x.toNat_lt
        have hpw : 10 ^ i ≤ 100000 := by
          have : i = 0 ∨ i = 1 ∨ i = 2 ∨ i = 3 ∨ i = 4 ∨ i = 5 := by omega
          rcases this with rfl | rfl | rfl | rfl | rfl | rfl <;> simp
        cases hdg : isDg x with
        | true =>
          rw [readV, if_pos hdg] at h3
          simp only [isDg, Bool.and_eq_true, decide_eq_true_eq] at hdg
          have d1 : ¬ ((x.toNat : Nat) : Int) < 48 := by omega
          have d2 : ¬ (57 : Int) < ((x.toNat : Nat) : Int) := by omega
          have e : (10 * (n : Int) + (((x.toNat : Nat) : Int) - 48)) = ((10 * n + dgV x : Nat) : Int) := by unfold dgV; omega
          have hw := wrap_dg (x := x) (by omega) (by omega)
          simp -dsimp -implicitDefEqProofs (disch := omega) [go_sem, -List.getD_eq_getElem?_getD, ite_yes, hlt, hlti, hx, d1, d2, hw]
          refine LoopEnd.of (i + 1, 10 * n + dgV x) ⟨by simp only; omega, by simp only [Nat.pow_succ]; unfold dgV; omega, h3⟩ (by simp only; omega) (weakS_same (by simp -dsimp -implicitDefEqProofs (disch := omega) [go_sem, -List.getD_eq_getElem?_getD, ite_yes, ← e]))
        | false =>
          rw [readV, if_neg (by simp [hdg])] at h3
          have hbad : ¬ (48 ≤ x.toNat ∧ x.toNat ≤ 57) := fun h => by simp [isDg, h] at hdg
          have eb : readN l = (0, false) := readN_none (t := l) (readT_pos hpos) h3.symm
          by_cases d1 : ((x.toNat : Nat) : Int) < 48
          · simp -dsimp -implicitDefEqProofs (disch := omega) [go_sem, -List.getD_eq_getElem?_getD, ite_yes, hlt, hlti, hx, d1]
            exact fin_flat0 rfl (by rw [eb])
          · have d2 : (57 : Int) < ((x.toNat : Nat) : Int) := by
              rcases Nat.lt_or_ge 57 x.toNat with h | h
              · omega
              · exact absurd ⟨by omega, h⟩ hbad
            simp -dsimp -implicitDefEqProofs (disch := omega) [go_sem, -List.getD_eq_getElem?_getD, ite_yes, hlt, hlti, hx, d1, d2]
            exact fin_flat0 rfl (by rw [eb])
      · obtain rfl : i = l.length := by omega
        have hlti : ¬ (l.length : Int) < (l.length : Int) := by omega
        rw [List.drop_length, readV] at h3
        have hpw : 10 ^ l.length ≤ 1000000 := by
          have : l.length = 1 ∨ l.length = 2 ∨ l.length = 3 ∨ l.length = 4 ∨ l.length = 5 ∨ l.length = 6 := by omega
          rcases this with h | h | h | h | h | h <;> rw [h] <;> simp
        have es := readN_some (l := l) (t := l) (readT_pos hpos) hlen h3.symm
        rw [if_neg (Nat.lt_irrefl _)] at es
        simp -dsimp -implicitDefEqProofs (disch := omega) [go_sem, -List.getD_eq_getElem?_getD, ite_yes, hlt, hlti]
        refine ACall.of (l1Num_A (n : Int) (by omega) (by omega) _) ?_
        by_cases eq : itoa (n : Int) = l
        · rw [if_pos eq] at es
          simp -dsimp -implicitDefEqProofs (disch := omega) [go_sem, -List.getD_eq_getElem?_getD, ite_yes, eq]
          exact fin_flat0 rfl (by rw [es])
        · rw [if_neg eq] at es
          have eqb := beq_false_of_ne eq
          simp -dsimp -implicitDefEqProofs (disch := omega) [go_sem, -List.getD_eq_getElem?_getD, ite_yes, eq, eqb]
          exact fin_flat0 rfl (by rw [es])
end Go.Proofs.YthnnbgggfpempaaDoor
