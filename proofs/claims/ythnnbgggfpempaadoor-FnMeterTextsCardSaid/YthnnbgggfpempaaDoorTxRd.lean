/- The text of a reading. -/
import Derived.Test.YthnnbgggfpempaaDoorL19
import Derived.Test.YthnnbgggfpempaaDoorNum
import Derived.Test.YthnnbgggfpempaaDoorItoa
namespace Go.Proofs.YthnnbgggfpempaaDoor
open Go.Am Go.Lib
set_option linter.unusedVariables false
set_option linter.unusedSimpArgs false
set_option maxRecDepth 100000
theorem itoa_nat (n : Nat) : itoa (n : Int) = decDigits n := by rw [itoa, if_neg (by omega), Int.toNat_natCast]
theorem dec_pow : ∀ (k c : Nat), c < 10 ^ k → decDigits (10 ^ k + c) = dgt 1 :: digN k c
  | 0, c, h => by
    obtain rfl : c = 0 := by simpa using h
    rw [dec_small (by simp)]; rfl
  | k + 1, c, h => by
    have e : 10 ^ (k + 1) = 10 * 10 ^ k := by rw [Nat.pow_succ]; omega
    have p : 0 < 10 ^ k := Nat.pow_pos (by omega)
    rw [e] at h ⊢
    rw [dec_big (by omega), show (10 * 10 ^ k + c) / 10 = 10 ^ k + c / 10 by omega, dec_pow k (c / 10) (by omega), digN, show (10 * 10 ^ k + c) % 10 = c % 10 by omega]
    rfl
def rdText (r : Rd) : List UInt8 := 100 :: 97 :: 121 :: 32 :: (itoa r.1 ++ 58 :: 32 :: digN 5 r.2.toNat)
theorem isRd_at {r : Rd} (h : isRd r = true) : 0 ≤ r.1 ∧ r.1 ≤ 3650 ∧ 0 ≤ r.2 ∧ r.2 ≤ 99999 := by
  simp only [isRd, inB, Bool.and_eq_true, decide_eq_true_eq] at h
  omega
theorem itoa_len {n : Int} (h0 : 0 ≤ n) (h1 : n ≤ 9223372036854775807) : (itoa n).length ≤ 19 := by
  rw [itoa, if_neg (by omega)]
  exact dec_len (by omega)
theorem readingText_A (r : Rd) (h : isRd r = true) (H : Heap) : AFunC Tryd.prog 56 [.agg #[.int .i64 r.1, .int .i64 r.2]] H (.string (bs (rdText r))) H := by
  refine AFunC.of_body Tryd.func56 (by kernel_rfl) rfl (by kernel_rfl) (by simp [Tryd.ntmps56]) ?_
  obtain ⟨h0, h1, h2, h3⟩ := isRd_at h
  have l1 := itoa_len h0 (by omega)
  have e2 : itoa (100000 + r.2) = dgt 1 :: digN 5 r.2.toNat := by
    have := dec_pow 5 r.2.toNat (by omega)
    rw [← itoa_nat] at this
    rw [← this]; congr 1; omega
  have l2 := digN_length 5 r.2.toNat
  simp -dsimp -implicitDefEqProofs (disch := omega) [go_sem, -List.getD_eq_getElem?_getD, ite_yes]
  refine ADraw.quiet (by kernel_rfl) (by kernel_rfl) (by kernel_rfl) ?_
  simp -dsimp -implicitDefEqProofs (disch := omega) [go_sem, -List.getD_eq_getElem?_getD, ite_yes]
  refine ACallQ.of (itoa_A r.1 (by omega) (by omega) _) rfl ?_
  rw [show (⟨(itoa r.1).toArray⟩ : ByteArray) = bs (itoa r.1) from rfl]
  simp -dsimp -implicitDefEqProofs (disch := omega) [go_sem, -List.getD_eq_getElem?_getD, ite_yes, l1]
  refine ACallQ.of (itoa_A (100000 + r.2) (by omega) (by omega) _) rfl ?_
  rw [e2, show (⟨(dgt 1 :: digN 5 r.2.toNat).toArray⟩ : ByteArray) = bs (dgt 1 :: digN 5 r.2.toNat) from rfl]
  simp -dsimp -implicitDefEqProofs (disch := omega) [go_sem, -List.getD_eq_getElem?_getD, ite_yes, l1, l2]
  exact fin_flat rfl rfl
theorem l19Text_A (r : Rd) (h : isRd r = true) (H : Heap) : AFunC Tryd.prog 58 [.agg #[.int .i64 r.1, .int .i64 r.2]] H (.string (bs (rdText r))) H := by
  refine AFunC.of_body Tryd.func58 (by kernel_rfl) rfl (by kernel_rfl) (by simp [Tryd.ntmps58]) ?_
  obtain ⟨h0, h1, h2, h3⟩ := isRd_at h
  have l1 := itoa_len h0 (by omega)
  have l2 := digN_length 5 r.2.toNat
  obtain ⟨n, hn⟩ : ∃ n : Nat, r.2 = (n : Int) := ⟨r.2.toNat, by omega⟩
  simp -dsimp -implicitDefEqProofs (disch := omega) [go_sem, -List.getD_eq_getElem?_getD, ite_yes, hn]
  refine ADraw.quiet (by kernel_rfl) (by kernel_rfl) (by kernel_rfl) ?_
  simp -dsimp -implicitDefEqProofs (disch := omega) [go_sem, -List.getD_eq_getElem?_getD, ite_yes, hn]
  refine ACallQ.of (l1Num_A r.1 (by omega) (by omega) _) rfl ?_
  simp -dsimp -implicitDefEqProofs (disch := omega) [go_sem, -List.getD_eq_getElem?_getD, ite_yes, l1]
  refine ACallQ.of (l3Digits_A n 5 (by omega) (by omega) (by omega) _) rfl ?_
  rw [show n = r.2.toNat by omega]
  simp -dsimp -implicitDefEqProofs (disch := omega) [go_sem, -List.getD_eq_getElem?_getD, ite_yes, l1, l2]
  exact fin_flat rfl rfl
theorem iReadingText_A (r : Rd) (H : Heap) : AFunC Tryd.prog 8 [.agg #[.int .i64 r.1, .int .i64 r.2]] H (.tuple #[.string (bs (if isRd r = true then rdText r else [])), .bool (isRd r)]) H := by
  refine AFunC.of_body Tryd.func8 (by kernel_rfl) rfl (by kernel_rfl) (by simp [Tryd.ntmps8]) ?_
  simp -dsimp -implicitDefEqProofs (disch := omega) [go_sem, -List.getD_eq_getElem?_getD, ite_yes]
  refine ACall.of (isReading_A r _) ?_
  cases h : isRd r
  · simp -dsimp -implicitDefEqProofs (disch := omega) [go_sem, -List.getD_eq_getElem?_getD, ite_yes]
    exact fin_flat rfl rfl
  · simp -dsimp -implicitDefEqProofs (disch := omega) [go_sem, -List.getD_eq_getElem?_getD, ite_yes]
    refine ACall.of (readingText_A r h _) ?_
    simp -dsimp -implicitDefEqProofs (disch := omega) [go_sem, -List.getD_eq_getElem?_getD, ite_yes]
    exact fin_flat rfl rfl
theorem sReadingText_A (r : Rd) (H : Heap) : AFunC Tryd.prog 9 [.agg #[.int .i64 r.1, .int .i64 r.2]] H (.tuple #[.string (bs (if isRd r = true then rdText r else [])), .bool (isRd r)]) H := by
  refine AFunC.of_body Tryd.func9 (by kernel_rfl) rfl (by kernel_rfl) (by simp [Tryd.ntmps9]) ?_
  simp -dsimp -implicitDefEqProofs (disch := omega) [go_sem, -List.getD_eq_getElem?_getD, ite_yes]
  refine ACall.of (l19One_A r _) ?_
  cases h : isRd r
  · simp -dsimp -implicitDefEqProofs (disch := omega) [go_sem, -List.getD_eq_getElem?_getD, ite_yes]
    exact fin_flat rfl rfl
  · simp -dsimp -implicitDefEqProofs (disch := omega) [go_sem, -List.getD_eq_getElem?_getD, ite_yes]
    refine ACall.of (l19Text_A r h _) ?_
    simp -dsimp -implicitDefEqProofs (disch := omega) [go_sem, -List.getD_eq_getElem?_getD, ite_yes]
    exact fin_flat rfl rfl
end Go.Proofs.YthnnbgggfpempaaDoor
