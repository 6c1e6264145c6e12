/- Readings out of texts: both sides, and the law. -/
import Derived.Test.YthnnbgggfpempaaDoorTxRd
import Derived.Test.YthnnbgggfpempaaDoorSplit
import Derived.Test.YthnnbgggfpempaaDoorRead
import Derived.Test.YthnnbgggfpempaaDoorNums
namespace Go.Proofs.YthnnbgggfpempaaDoor
open Go.Am Go.Lib
set_option linter.unusedVariables false
set_option linter.unusedSimpArgs false
set_option maxRecDepth 100000
set_option maxHeartbeats 2000000
/-! ### The plain part -/
theorem digN_all : ∀ k n, ∀ b ∈ digN k n, isDg b = true
  | 0, _, b, h => by simp [digN] at h
  | k + 1, n, b, h => by
    rw [digN] at h
    rcases List.mem_append.1 h with h | h
    · exact digN_all k _ b h
    · obtain rfl : b = dgt (n % 10) := by simpa using h
      exact isDg_dgt (by omega)
theorem worth_digN : ∀ k n, worth 0 (digN k n) = n % 10 ^ k
  | 0, n => by simp [digN, worth_nil, Nat.mod_one]
  | k + 1, n => by
    rw [digN, worth_append, worth_digN k, worth_cons, worth_nil, dgV_dgt (by omega), Nat.pow_succ, Nat.mul_comm (10 ^ k) 10, Nat.mod_mul]
    omega
theorem isDg_lit {b : UInt8} (h : isDg b = false) {w : List UInt8} (hw : ∀ x ∈ w, isDg x = true) : ∀ x ∈ w, x ≠ b := fun x hx e => by
  rw [e] at hx
  rw [hw b hx] at h; cases h
theorem rdNat {r : Rd} (h : isRd r = true) : ∃ d c : Nat, r = ((d : Int), (c : Int)) ∧ d ≤ 3650 ∧ c ≤ 99999 := by
  obtain ⟨h0, h1, h2, h3⟩ := isRd_at h
  exact ⟨r.1.toNat, r.2.toNat, by obtain ⟨a, b⟩ := r; simp only at *; congr 1 <;> omega, by omega, by omega⟩
theorem rdText_nat (d c : Nat) : rdText ((d : Int), (c : Int)) = [100, 97, 121, 32] ++ (decDigits d ++ 58 :: ([32] ++ (digN 5 c ++ []))) := by
  simp [rdText, itoa_nat]
theorem rdText_len {r : Rd} (h : isRd r = true) : (rdText r).length ≤ 20 := by
  obtain ⟨d, c, rfl, h1, h2⟩ := rdNat h
  have := dec_len_le (k := 3) (n := d) (by omega)
  rw [rdText_nat]
  simp only [List.length_append, List.length_cons, List.length_nil, digN_length]
  omega
theorem rd_nums {r : Rd} (h : isRd r = true) : numsI 3 (rdText r) = [r.1, r.2] := by
  obtain ⟨d, c, rfl, h1, h2⟩ := rdNat h
  have l1 := dec_len_le (k := 3) (n := d) (by omega)
  have e1 : numsOf 3 (rdText ((d : Int), (c : Int))) = [d, c] := by
    rw [rdText_nat, numsOf_skip (by decide), numsOf_word (dec_all d) (dec_ne d) (by omega) (fun b r e => by cases e; decide), worth_dec, List.drop_one, List.tail_cons,
      numsOf_skip (by decide), numsOf_word (digN_all 5 c) (fun e => by have := congrArg List.length e; rw [digN_length] at this; simp at this) (by rw [digN_length]; omega) (fun b r e => by cases e), worth_digN, Nat.mod_eq_of_lt (by omega), List.drop_nil, numsOf_nil]
  rw [numsI, e1]; rfl
theorem rd_split {r : Rd} (h : isRd r = true) : splitB 32 (rdText r) = [[100, 97, 121], itoa r.1 ++ [58], digN 5 r.2.toNat] := by
  obtain ⟨d, c, rfl, h1, h2⟩ := rdNat h
  have n1 := isDg_lit (b := 32) (by decide) (dec_all d)
  have n2 := isDg_lit (b := 32) (by decide) (digN_all 5 c)
  have e : rdText ((d : Int), (c : Int)) = [100, 97, 121] ++ 32 :: ((decDigits d ++ [58]) ++ 32 :: digN 5 c) := by simp [rdText, itoa_nat]
  rw [e, splitB_word (by decide), splitB_word (fun x hx => by
    rcases List.mem_append.1 hx with hx | hx
    · exact n1 x hx
    · obtain rfl : x = 58 := by simpa using hx
      decide), splitB_last n2, itoa_nat]
  rfl
/-- the count of a text -/
def cntI (x : Int) (w : List UInt8) : Int := w.foldl (fun x b => 10 * x + (b.toNat : Nat) - 48) x
theorem cntI_cons (x : Int) (b : UInt8) (w : List UInt8) : cntI x (b :: w) = cntI (10 * x + (b.toNat : Nat) - 48) w := by rw [cntI, cntI, List.foldl_cons]
theorem cntI_worth : ∀ (w : List UInt8) (n : Nat), (∀ b ∈ w, isDg b = true) → cntI n w = worth n w
  | [], _, _ => rfl
  | b :: w, n, h => by
    have hb := h b (by simp)
    simp only [isDg, Bool.and_eq_true, decide_eq_true_eq] at hb
    rw [cntI_cons, worth_cons, ← cntI_worth w _ fun x hx => h x (by simp [hx])]
    congr 1
    unfold dgV
    omega
theorem split_sum (b : UInt8) : ∀ l, ((splitB b l).map List.length).sum + (splitB b l).length = l.length + 1
  | [] => by simp [splitB]
  | x :: l => by
    have ih := split_sum b l
    rw [splitB]
    split
    · simp; omega
    · cases h : splitB b l with
      | nil => exact absurd h (splitB_ne b l)
      | cons w r =>
        rw [h] at ih
        simp at ih ⊢
        omega
def p10 (k : Nat) : Nat := 10 ^ k
theorem p10_succ (k : Nat) : p10 (k + 1) = 10 * p10 k := by rw [p10, p10, Nat.pow_succ]; omega
theorem p10_le {k n : Nat} (h : k ≤ n) : p10 k ≤ 10 ^ n := Nat.pow_le_pow_right (by omega) h
theorem p10_pos (k : Nat) : 1 ≤ p10 k := Nat.pow_pos (by omega)
open Classical in
/-- the reading whose text this is, if there is one -/
noncomputable def parRd (l : List UInt8) : Rd × Bool := if h : ∃ r, isRd r = true ∧ rdText r = l then (h.choose, true) else ((0, 0), false)
theorem parRd_no {l : List UInt8} (h : ∀ r, isRd r = true → rdText r ≠ l) : parRd l = ((0, 0), false) := by
  rw [parRd, dif_neg]
  rintro ⟨r, h1, h2⟩
  exact h r h1 h2
theorem parRd_yes {r : Rd} {l : List UInt8} (h : isRd r = true) (hl : rdText r = l) : parRd l = (r, true) := by
  have hex : ∃ r, isRd r = true ∧ rdText r = l := ⟨r, h, hl⟩
  rw [parRd, dif_pos hex]
  have h1 := hex.choose_spec.1
  have h2 := hex.choose_spec.2
  generalize hex.choose = q at h1 h2
  have e1 := rd_nums h
  have e2 := rd_nums h1
  rw [hl] at e1
  rw [h2, e1] at e2
  simp at e2
  congr 1
  exact Prod.ext e2.1.symm e2.2.symm
/-! ### The walks -/
theorem iParRd_A (l : List UInt8) (hl : l.length ≤ 1048577) (H : Heap) : AFunC Tryd.prog 10 [.string (bs l)] H (.tuple #[.agg #[.int .i64 (parRd l).1.1, .int .i64 (parRd l).1.2], .bool (parRd l).2]) H := by
  refine AFunC.of_body Tryd.func10 (by kernel_rfl) rfl (by kernel_rfl) (by simp [Tryd.ntmps10]) ?_
  have lf := nmE_length (numsI 3 l)
  simp -dsimp -implicitDefEqProofs (disch := omega) [go_sem, -List.getD_eq_getElem?_getD, ite_yes]
  refine ACall.of (numbersOf_A l hl 3 (by omega) _) ?_
  by_cases h20 : 20 < l.length
  · have h20i : (20 : Int) < (l.length : Int) := by omega
    simp -dsimp -implicitDefEqProofs (disch := omega) [go_sem, -List.getD_eq_getElem?_getD, ite_yes, h20, h20i]
    exact fin_flat rfl (by rw [parRd_no fun r hr e => by have := rdText_len hr; rw [e] at this; omega])
  have h20i : ¬ (20 : Int) < (l.length : Int) := by omega
  by_cases h2 : (numsI 3 l).length = 2
  rotate_left
  · have h2i : ¬ ((numsI 3 l).length : Int) = 2 := by omega
    simp -dsimp -implicitDefEqProofs (disch := omega) [go_sem, -List.getD_eq_getElem?_getD, ite_yes, h20, h20i, h2, h2i]
    exact fin_flat rfl (by rw [parRd_no fun r hr e => by have := rd_nums hr; rw [e] at this; rw [this] at h2; simp at h2])
  obtain ⟨a, b, hab⟩ : ∃ a b, numsI 3 l = [a, b] := by
    match hq : numsI 3 l, h2 with
    | [a, b], _ => exact ⟨a, b, rfl⟩
  have key : ∀ r, isRd r = true → rdText r = l → r = (a, b) := fun r hr e => by
    have := rd_nums hr
    rw [e, hab] at this
    simp at this
    exact Prod.ext this.1.symm this.2.symm
  rw [hab]
  simp -dsimp -implicitDefEqProofs (disch := omega) [go_sem, -List.getD_eq_getElem?_getD, ite_yes, h20, h20i, nmE]
  refine ADraw.any _ (by kernel_rfl) (SubH.refl) ?_
  refine AAny.takes (fuel := 3) (by kernel_rfl) (by kernel_rfl) [0, 1, 2, 3, 4, 5] (by kernel_rfl) (by kernel_rfl) ?_
  simp -dsimp -implicitDefEqProofs (disch := omega) [go_sem, -List.getD_eq_getElem?_getD, ite_yes, nmE]
  refine AAny.two 2 6 7 (by kernel_rfl) (by kernel_rfl) (by kernel_rfl) ?_ ?_
  · simp -dsimp -implicitDefEqProofs (disch := omega) [go_sem, -List.getD_eq_getElem?_getD, ite_yes, nmE]
    first | refine AAt.of (by first | exact SubH.refl | exact SubH.app | exact SubH.both (by simp [subL])) ?_ | (refine ⟨?_, AAt.of (by first | exact SubH.refl | exact SubH.app | exact SubH.both (by simp [subL])) ?_⟩; · omega)
    refine AAny.one 1 7 (by kernel_rfl) (by kernel_rfl) (by kernel_rfl) ?_
    simp -dsimp -implicitDefEqProofs (disch := omega) [go_sem, -List.getD_eq_getElem?_getD, ite_yes, nmE]
    first | refine AAt.of (by first | exact SubH.refl | exact SubH.app | exact SubH.both (by simp [subL])) ?_ | (refine ⟨?_, AAt.of (by first | exact SubH.refl | exact SubH.app | exact SubH.both (by simp [subL])) ?_⟩; · omega)
    refine AAny.one 0 8 (by kernel_rfl) (by kernel_rfl) (by kernel_rfl) ?_
    simp -dsimp -implicitDefEqProofs (disch := omega) [go_sem, -List.getD_eq_getElem?_getD, ite_yes, nmE]
    first | refine AAt.of (by first | exact SubH.refl | exact SubH.app | exact SubH.both (by simp [subL])) ?_ | (refine ⟨?_, AAt.of (by first | exact SubH.refl | exact SubH.app | exact SubH.both (by simp [subL])) ?_⟩; · omega)
    refine AAny.done (by kernel_rfl) ?_
    simp -dsimp -implicitDefEqProofs (disch := omega) [go_sem, -List.getD_eq_getElem?_getD, ite_yes, nmE]
    refine ACall.of (isReading_A (a, b) _) ?_
    cases hr : isRd (a, b)
    · simp -dsimp -implicitDefEqProofs (disch := omega) [go_sem, -List.getD_eq_getElem?_getD, ite_yes]
      exact fin_flat rfl (by rw [parRd_no fun r hr' e => by rw [key r hr' e, hr] at hr'; cases hr'])
    · simp -dsimp -implicitDefEqProofs (disch := omega) [go_sem, -List.getD_eq_getElem?_getD, ite_yes]
      refine ACall.of (readingText_A (a, b) hr _) ?_
      by_cases ht : rdText (a, b) = l
      · simp -dsimp -implicitDefEqProofs (disch := omega) [go_sem, -List.getD_eq_getElem?_getD, ite_yes, ht]
        exact fin_flat rfl (by rw [parRd_yes hr ht])
      · have htb := beq_false_of_ne ht
        simp -dsimp -implicitDefEqProofs (disch := omega) [go_sem, -List.getD_eq_getElem?_getD, ite_yes, ht, htb]
        exact fin_flat rfl (by rw [parRd_no fun r hr' e => by rw [key r hr' e] at e; exact ht e])
  · simp -dsimp -implicitDefEqProofs (disch := omega) [go_sem, -List.getD_eq_getElem?_getD, ite_yes, nmE]
    first | refine AAt.of (by first | exact SubH.refl | exact SubH.app | exact SubH.both (by simp [subL])) ?_ | (refine ⟨?_, AAt.of (by first | exact SubH.refl | exact SubH.app | exact SubH.both (by simp [subL])) ?_⟩; · omega)
    refine AAny.one 1 6 (by kernel_rfl) (by kernel_rfl) (by kernel_rfl) ?_
    simp -dsimp -implicitDefEqProofs (disch := omega) [go_sem, -List.getD_eq_getElem?_getD, ite_yes, nmE]
    first | refine AAt.of (by first | exact SubH.refl | exact SubH.app | exact SubH.both (by simp [subL])) ?_ | (refine ⟨?_, AAt.of (by first | exact SubH.refl | exact SubH.app | exact SubH.both (by simp [subL])) ?_⟩; · omega)
    refine AAny.one 0 8 (by kernel_rfl) (by kernel_rfl) (by kernel_rfl) ?_
    simp -dsimp -implicitDefEqProofs (disch := omega) [go_sem, -List.getD_eq_getElem?_getD, ite_yes, nmE]
    first | refine AAt.of (by first | exact SubH.refl | exact SubH.app | exact SubH.both (by simp [subL])) ?_ | (refine ⟨?_, AAt.of (by first | exact SubH.refl | exact SubH.app | exact SubH.both (by simp [subL])) ?_⟩; · omega)
    refine AAny.done (by kernel_rfl) ?_
    simp -dsimp -implicitDefEqProofs (disch := omega) [go_sem, -List.getD_eq_getElem?_getD, ite_yes, nmE]
    refine ACall.of (isReading_A (a, b) _) ?_
    cases hr : isRd (a, b)
    · simp -dsimp -implicitDefEqProofs (disch := omega) [go_sem, -List.getD_eq_getElem?_getD, ite_yes]
      exact fin_flat rfl (by rw [parRd_no fun r hr' e => by rw [key r hr' e, hr] at hr'; cases hr'])
    · simp -dsimp -implicitDefEqProofs (disch := omega) [go_sem, -List.getD_eq_getElem?_getD, ite_yes]
      refine ACall.of (readingText_A (a, b) hr _) ?_
      by_cases ht : rdText (a, b) = l
      · simp -dsimp -implicitDefEqProofs (disch := omega) [go_sem, -List.getD_eq_getElem?_getD, ite_yes, ht]
        exact fin_flat rfl (by rw [parRd_yes hr ht])
      · have htb := beq_false_of_ne ht
        simp -dsimp -implicitDefEqProofs (disch := omega) [go_sem, -List.getD_eq_getElem?_getD, ite_yes, ht, htb]
        exact fin_flat rfl (by rw [parRd_no fun r hr' e => by rw [key r hr' e] at e; exact ht e])
theorem sParRd_A (l : List UInt8) (hl : l.length ≤ 1048577) (H : Heap) : AFunC Tryd.prog 12 [.string (bs l)] H (.tuple #[.agg #[.int .i64 (parRd l).1.1, .int .i64 (parRd l).1.2], .bool (parRd l).2]) H := by
  refine AFunC.of_body Tryd.func12 (by kernel_rfl) rfl (by kernel_rfl) (by simp [Tryd.ntmps12]) ?_
  have lf := wdE_length (splitB 32 l)
  simp -dsimp -implicitDefEqProofs (disch := omega) [go_sem, -List.getD_eq_getElem?_getD, ite_yes]
  refine ACall.of (l1Split_A l 32 hl _) ?_
  by_cases h20 : 20 < l.length
  · have h20i : (20 : Int) < (l.length : Int) := by omega
    simp -dsimp -implicitDefEqProofs (disch := omega) [go_sem, -List.getD_eq_getElem?_getD, ite_yes, h20, h20i]
    exact fin_flat rfl (by rw [parRd_no fun r hr e => by have := rdText_len hr; rw [e] at this; omega])
  have h20i : ¬ (20 : Int) < (l.length : Int) := by omega
  by_cases h3 : (splitB 32 l).length = 3
  rotate_left
  · have h3i : ¬ ((splitB 32 l).length : Int) = 3 := by omega
    simp -dsimp -implicitDefEqProofs (disch := omega) [go_sem, -List.getD_eq_getElem?_getD, ite_yes, h20, h20i, h3, h3i]
    exact fin_flat rfl (by rw [parRd_no fun r hr e => by have := rd_split hr; rw [e] at this; rw [this] at h3; simp at h3])
  obtain ⟨w0, w1, w2, hw⟩ : ∃ w0 w1 w2, splitB 32 l = [w0, w1, w2] := by
    match hq : splitB 32 l, h3 with
    | [a, b, c], _ => exact ⟨a, b, c, rfl⟩
  have hsum := split_sum 32 l
  rw [hw] at hsum
  simp at hsum
  have key : ∀ r, isRd r = true → rdText r = l → w1 = itoa r.1 ++ [58] ∧ w2 = digN 5 r.2.toNat := fun r hr e => by
    have := rd_split hr
    rw [e, hw] at this
    simp at this
    exact ⟨this.2.1, this.2.2⟩
  rw [hw]
  by_cases h2 : w1.length < 2
  · have h2i : (w1.length : Int) < 2 := by omega
    simp -dsimp -implicitDefEqProofs (disch := omega) [go_sem, -List.getD_eq_getElem?_getD, ite_yes, h20, h20i, h2, h2i, wdE]
    exact fin_flat rfl (by rw [parRd_no fun r hr e => by
      have h1 := (key r hr e).1
      obtain ⟨d, c, rfl, q1, q2⟩ := rdNat hr
      rw [h1, itoa_nat] at h2
      cases hq : decDigits d with
      | nil => exact dec_ne d hq
      | cons x y => rw [hq] at h2; simp only [List.length_append, List.length_cons, List.length_nil] at h2; omega])
  have h2i : ¬ (w1.length : Int) < 2 := by omega
  have hu := splitB_size 32 l w1 (by rw [hw]; simp)
  simp -dsimp -implicitDefEqProofs (disch := omega) [go_sem, -List.getD_eq_getElem?_getD, ite_yes, h20, h20i, h2, h2i, wdE]
  refine ADraw.quiet (by kernel_rfl) (by kernel_rfl) (by kernel_rfl) ?_
  simp -dsimp -implicitDefEqProofs (disch := omega) [go_sem, -List.getD_eq_getElem?_getD, ite_yes, h20, h20i, h2, h2i, wdE]
  refine ACallQ.of (l1Read_A (w1.take (w1.length - 1)) (by simp; omega) _) rfl ?_
  generalize hrd : readN (w1.take (w1.length - 1)) = day
  obtain ⟨day, one⟩ := day
  simp -dsimp -implicitDefEqProofs (disch := omega) [go_sem, -List.getD_eq_getElem?_getD, ite_yes, h20, h20i, h2, h2i, wdE]
  refine ALoop.intro (ι := Nat × Int) (fun q => q.1 ≤ w2.length ∧ (-(23 * ((p10 q.1 : Nat) - 1 : Int)) ≤ q.2 ∧ q.2 ≤ 23 * ((p10 q.1 : Nat) - 1 : Int)) ∧ cntI q.2 (w2.drop q.1) = cntI 0 w2)
    (fun q => [(0, .string (bs l)), (2, .pointer (some ⟨H.length, 0, none⟩)), (4, .slice (some ⟨H.length + 1, 0, none⟩) 3 3), (5, .int .i64 day), (6, .bool one), (7, .int .i64 q.2), (8, .int .i64 q.1)])
    (fun q => H ++ [some ⟨[.int .i64 0, .int .i64 0], true, 25, 1⟩, some ⟨[.string (bs w0), .string (bs w1), .string (bs w2)], true, 9, 1⟩]) (fun q => w2.length - q.1) (0, 0) ⟨by simp, by simp [p10], by simp⟩ ?_ ?_
  · refine weakS_mk [some 0, some 1] rfl ?_ (by simp -dsimp -implicitDefEqProofs (disch := omega) [go_sem, -List.getD_eq_getElem?_getD, ite_yes])
    simp -dsimp -implicitDefEqProofs (disch := omega) [go_sem, -List.getD_eq_getElem?_getD, ite_yes]
    exact ⟨.inl ⟨rfl, rfl⟩, .inl ⟨rfl, rfl⟩⟩
  rintro ⟨i, x⟩ ⟨k1, k2, k3⟩
  simp only at k1 k2 k3
  have hp := p10_le (show i ≤ 16 by omega)
  have hp1 := p10_pos i
  have hps := p10_succ i
  by_cases hlt : i < w2.length
  · have hlti : (i : Int) < (w2.length : Int) := by omega
    obtain ⟨y, hy⟩ : ∃ y, w2[i] = y := ⟨_, rfl⟩
    have hd : w2.drop i = y :: w2.drop (i + 1) := by rw [List.drop_eq_getElem_cons hlt, hy]
    have hyy := y.toNat_lt
    rw [hd, cntI_cons] at k3
    simp -dsimp -implicitDefEqProofs (disch := omega) [go_sem, -List.getD_eq_getElem?_getD, ite_yes, hlt, hlti, hy]
    refine LoopEnd.of (i + 1, 10 * x + (y.toNat : Nat) - 48) ⟨by simp only; omega, by simp only [hps]; omega, k3⟩ (by simp only; omega) (weakS_mk [some 0, some 1] rfl ?_ (by simp -dsimp -implicitDefEqProofs (disch := omega) [go_sem, -List.getD_eq_getElem?_getD, ite_yes]))
    simp -dsimp -implicitDefEqProofs (disch := omega) [go_sem, -List.getD_eq_getElem?_getD, ite_yes]
    exact ⟨.inl ⟨rfl, rfl⟩, .inl ⟨rfl, rfl⟩⟩
  obtain rfl : i = w2.length := by omega
  have hlti : ¬ (w2.length : Int) < (w2.length : Int) := by omega
  rw [List.drop_length] at k3
  have k3 : x = cntI 0 w2 := k3
  have keyr : ∀ r, isRd r = true → rdText r = l → r = (day, x) ∧ one = true := fun r hr e => by
    obtain ⟨e1, e2⟩ := key r hr e
    obtain ⟨d, c, rfl, q1, q2⟩ := rdNat hr
    simp only [itoa_nat] at e1
    have e0 : w1.take (w1.length - 1) = decDigits d := by rw [e1]; simp
    rw [e0, readN_dec (by omega)] at hrd
    cases hrd
    have hc := cntI_worth (digN 5 c) 0 (digN_all 5 c)
    rw [worth_digN, Nat.mod_eq_of_lt (by omega)] at hc
    refine ⟨?_, rfl⟩
    rw [k3, e2]
    simp only [Int.toNat_natCast]
    exact congrArg (Prod.mk (d : Int)) hc.symm
  cases one
  · simp -dsimp -implicitDefEqProofs (disch := omega) [go_sem, -List.getD_eq_getElem?_getD, ite_yes, hlt, hlti]
    exact fin_flat rfl (by rw [parRd_no fun r hr e => by have := (keyr r hr e).2; cases this])
  simp -dsimp -implicitDefEqProofs (disch := omega) [go_sem, -List.getD_eq_getElem?_getD, ite_yes, hlt, hlti]
  refine ACall.of (l19One_A (day, x) _) ?_
  cases hr : isRd (day, x)
  · simp -dsimp -implicitDefEqProofs (disch := omega) [go_sem, -List.getD_eq_getElem?_getD, ite_yes]
    exact fin_flat rfl (by rw [parRd_no fun r hr' e => by rw [(keyr r hr' e).1, hr] at hr'; cases hr'])
  · simp -dsimp -implicitDefEqProofs (disch := omega) [go_sem, -List.getD_eq_getElem?_getD, ite_yes]
    refine ACall.of (l19Text_A (day, x) hr _) ?_
    by_cases ht : rdText (day, x) = l
    · simp -dsimp -implicitDefEqProofs (disch := omega) [go_sem, -List.getD_eq_getElem?_getD, ite_yes, ht]
      exact fin_flat rfl (by rw [parRd_yes hr ht])
    · have htb := beq_false_of_ne ht
      simp -dsimp -implicitDefEqProofs (disch := omega) [go_sem, -List.getD_eq_getElem?_getD, ite_yes, ht, htb]
      exact fin_flat rfl (by rw [parRd_no fun r hr' e => by rw [(keyr r hr' e).1] at e; exact ht e])
end Go.Proofs.YthnnbgggfpempaaDoor
