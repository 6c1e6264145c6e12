/- The text of a bill. -/
import Derived.Test.YthnnbgggfpempaaDoorBills
import Derived.Test.YthnnbgggfpempaaDoorNum
import Derived.Test.YthnnbgggfpempaaDoorItoa
namespace Go.Proofs.YthnnbgggfpempaaDoor
open Go.Am Go.Lib
set_option linter.unusedVariables false
set_option linter.unusedSimpArgs false
set_option maxRecDepth 100000
theorem itoa_lenB {n : Int} (h0 : 0 ≤ n) (h1 : n ≤ 9223372036854775807) : (itoa n).length ≤ 19 := by
  rw [itoa, if_neg (by omega)]
  exact dec_len (by omega)
theorem itoa_dg {n : Int} (h0 : 0 ≤ n) (h1 : n < 10) : itoa n = [dgt n.toNat] := by
  rw [itoa, if_neg (by omega), dec_small (by omega)]
def eurT (c : Int) : List UInt8 := itoa (c / 100) ++ 46 :: digN 2 (c % 100).toNat
def paidT (b : Bl) : List UInt8 := if b.2.2.2 = b.2.2.1 then [44, 32, 112, 97, 105, 100] else if 0 < b.2.2.2 then 44 :: 32 :: 112 :: 97 :: 105 :: 100 :: 32 :: eurT b.2.2.2 else []
def blText (b : Bl) : List UInt8 := 98 :: 105 :: 108 :: 108 :: 32 :: (itoa b.1 ++ 32 :: 111 :: 102 :: 32 :: 100 :: 97 :: 121 :: 32 :: (itoa b.2.1 ++ 58 :: 32 :: (eurT b.2.2.1 ++ paidT b)))
theorem eurT_len {c : Int} (h0 : 0 ≤ c) (h1 : c ≤ 9223372036854775807) : (eurT c).length ≤ 22 := by
  have := itoa_lenB (n := c / 100) (by omega) (by omega)
  simp only [eurT, List.length_append, List.length_cons, digN_length]
  omega
theorem digN_two (c : Int) (h : 0 ≤ c) : digN 2 (c % 100).toNat = [dgt (c / 10 % 10).toNat, dgt (c % 10).toNat] := by
  simp only [digN, List.nil_append, List.cons_append]
  congr 2
  · omega
  · congr 1
    omega
theorem isBl_at {r : Bl} (h : isBl r = true) : 1 ≤ r.1 ∧ r.1 ≤ 999 ∧ 0 ≤ r.2.1 ∧ r.2.1 ≤ 3650 ∧ 1 ≤ r.2.2.1 ∧ r.2.2.1 ≤ 1000000000 ∧ 0 ≤ r.2.2.2 ∧ r.2.2.2 ≤ r.2.2.1 := by
  simp only [isBl, inB, Bool.and_eq_true, decide_eq_true_eq] at h
  omega
theorem euros_A (c : Int) (h0 : 0 ≤ c) (h1 : c ≤ 1000000000) (H : Heap) : AFunC Tryd.prog 120 [.int .i64 c] H (.string (bs (eurT c))) H := by
  refine AFunC.of_body Tryd.func120 (by kernel_rfl) rfl (by kernel_rfl) (by simp [Tryd.ntmps120]) ?_
  have e1 := itoa_dg (n := c / 10 % 10) (by omega) (by omega)
  have e2 := itoa_dg (n := c % 10) (by omega) (by omega)
  have l1 := itoa_lenB (n := c / 100) (by omega) (by omega)
  have e3 := digN_two c h0
  have c0 : (⟨(itoa (c / 100)).toArray⟩ : ByteArray) = bs (itoa (c / 100)) := rfl
  simp -dsimp -implicitDefEqProofs (disch := omega) [go_sem, -List.getD_eq_getElem?_getD, ite_yes]
  refine ACall.of (itoa_A (c / 100) (by omega) (by omega) _) ?_
  simp -dsimp -implicitDefEqProofs (disch := omega) [go_sem, -List.getD_eq_getElem?_getD, ite_yes, l1, c0]
  refine ACall.of (itoa_A (c / 10 % 10) (by omega) (by omega) _) ?_
  rw [e1]
  simp -dsimp -implicitDefEqProofs (disch := omega) [go_sem, -List.getD_eq_getElem?_getD, ite_yes, l1, c0]
  refine ACall.of (itoa_A (c % 10) (by omega) (by omega) _) ?_
  rw [e2]
  simp -dsimp -implicitDefEqProofs (disch := omega) [go_sem, -List.getD_eq_getElem?_getD, ite_yes, l1, c0]
  exact fin_flat0 rfl (by rw [eurT, e3])
theorem l20Euros_A (c : Int) (h0 : 0 ≤ c) (h1 : c ≤ 1000000000) (H : Heap) : AFunC Tryd.prog 122 [.int .i64 c] H (.string (bs (eurT c))) H := by
  refine AFunC.of_body Tryd.func122 (by kernel_rfl) rfl (by kernel_rfl) (by simp [Tryd.ntmps122]) ?_
  have l1 := itoa_lenB (n := c / 100) (by omega) (by omega)
  have l2 := digN_length 2 (c % 100).toNat
  simp -dsimp -implicitDefEqProofs (disch := omega) [go_sem, -List.getD_eq_getElem?_getD, ite_yes]
  refine ACall.of (l1Num_A (c / 100) (by omega) (by omega) _) ?_
  simp -dsimp -implicitDefEqProofs (disch := omega) [go_sem, -List.getD_eq_getElem?_getD, ite_yes, l1]
  have hd := l3Digits_A (c % 100).toNat 2 (by omega) (by omega) (by omega) H
  rw [show (((c % 100).toNat : Nat) : Int) = c % 100 by omega] at hd
  refine ACall.of hd ?_
  simp -dsimp -implicitDefEqProofs (disch := omega) [go_sem, -List.getD_eq_getElem?_getD, ite_yes, l1, l2]
  exact fin_flat0 rfl rfl
theorem billText_A (r : Bl) (h : isBl r = true) (H : Heap) : AFunC Tryd.prog 75 [.agg #[.int .i64 r.1, .int .i64 r.2.1, .int .i64 r.2.2.1, .int .i64 r.2.2.2]] H (.string (bs (blText r))) H := by
  refine AFunC.of_body Tryd.func75 (by kernel_rfl) rfl (by kernel_rfl) (by simp [Tryd.ntmps75]) ?_
  obtain ⟨h0, h1, h2, h3, h4, h5, h6, h7⟩ := isBl_at h
  obtain ⟨x0, x1, x2, x3⟩ := r
  simp only at *
  have l1 := itoa_lenB (n := x0) (by omega) (by omega)
  have l2 := itoa_lenB (n := x1) (by omega) (by omega)
  have l3 := eurT_len (c := x2) (by omega) (by omega)
  have l4 := eurT_len (c := x3) (by omega) (by omega)
  have c0 : (⟨(itoa x0).toArray⟩ : ByteArray) = bs (itoa x0) := rfl
  have c1 : (⟨(itoa x1).toArray⟩ : ByteArray) = bs (itoa x1) := rfl
  simp -dsimp -implicitDefEqProofs (disch := omega) [go_sem, -List.getD_eq_getElem?_getD, ite_yes]
  refine ADraw.quiet (by kernel_rfl) (by kernel_rfl) (by kernel_rfl) ?_
  simp -dsimp -implicitDefEqProofs (disch := omega) [go_sem, -List.getD_eq_getElem?_getD, ite_yes]
  refine ACallQ.of (itoa_A x0 (by omega) (by omega) _) rfl ?_
  simp -dsimp -implicitDefEqProofs (disch := omega) [go_sem, -List.getD_eq_getElem?_getD, ite_yes, l1, c0]
  refine ACallQ.of (itoa_A x1 (by omega) (by omega) _) rfl ?_
  simp -dsimp -implicitDefEqProofs (disch := omega) [go_sem, -List.getD_eq_getElem?_getD, ite_yes, l1, l2, c0, c1]
  refine ACallQ.of (euros_A x2 (by omega) (by omega) _) rfl ?_
  by_cases e : x3 = x2
  · subst e
    simp -dsimp -implicitDefEqProofs (disch := omega) [go_sem, -List.getD_eq_getElem?_getD, ite_yes, l1, l2, l3]
    exact fin_flat rfl (by simp [blText, paidT])
  by_cases p : 0 < x3
  · simp -dsimp -implicitDefEqProofs (disch := omega) [go_sem, -List.getD_eq_getElem?_getD, ite_yes, l1, l2, l3, e, p]
    refine ACall.of (euros_A x3 (by omega) (by omega) _) ?_
    simp -dsimp -implicitDefEqProofs (disch := omega) [go_sem, -List.getD_eq_getElem?_getD, ite_yes, l1, l2, l3, l4, e, p]
    exact fin_flat rfl (by simp [blText, paidT, e, p])
  · simp -dsimp -implicitDefEqProofs (disch := omega) [go_sem, -List.getD_eq_getElem?_getD, ite_yes, l1, l2, l3, e, p]
    exact fin_flat rfl (by simp [blText, paidT, e, p])
theorem l20Open_T (r : Bl) (H : Heap) : AFunC Tryd.prog 88 [.agg #[.int .i64 r.1, .int .i64 r.2.1, .int .i64 r.2.2.1, .int .i64 r.2.2.2]] H (.bool (decide (r.2.2.2 < r.2.2.1))) H := by
  refine AFunC.of_body Tryd.func88 (by kernel_rfl) rfl (by kernel_rfl) (by simp [Tryd.ntmps88]) ?_
  simp -dsimp -implicitDefEqProofs (disch := omega) [go_sem, -List.getD_eq_getElem?_getD, ite_yes]
  exact fin_flat rfl rfl
theorem l20Text_A (r : Bl) (h : isBl r = true) (H : Heap) : AFunC Tryd.prog 77 [.agg #[.int .i64 r.1, .int .i64 r.2.1, .int .i64 r.2.2.1, .int .i64 r.2.2.2]] H (.string (bs (blText r))) H := by
  refine AFunC.of_body Tryd.func77 (by kernel_rfl) rfl (by kernel_rfl) (by simp [Tryd.ntmps77]) ?_
  obtain ⟨h0, h1, h2, h3, h4, h5, h6, h7⟩ := isBl_at h
  obtain ⟨x0, x1, x2, x3⟩ := r
  simp only at *
  have l1 := itoa_lenB (n := x0) (by omega) (by omega)
  have l2 := itoa_lenB (n := x1) (by omega) (by omega)
  have l3 := eurT_len (c := x2) (by omega) (by omega)
  have l4 := eurT_len (c := x3) (by omega) (by omega)
  simp -dsimp -implicitDefEqProofs (disch := omega) [go_sem, -List.getD_eq_getElem?_getD, ite_yes]
  refine ADraw.quiet (by kernel_rfl) (by kernel_rfl) (by kernel_rfl) ?_
  simp -dsimp -implicitDefEqProofs (disch := omega) [go_sem, -List.getD_eq_getElem?_getD, ite_yes]
  refine ACallQ.of (l1Num_A x0 (by omega) (by omega) _) rfl ?_
  simp -dsimp -implicitDefEqProofs (disch := omega) [go_sem, -List.getD_eq_getElem?_getD, ite_yes, l1]
  refine ACallQ.of (l1Num_A x1 (by omega) (by omega) _) rfl ?_
  simp -dsimp -implicitDefEqProofs (disch := omega) [go_sem, -List.getD_eq_getElem?_getD, ite_yes, l1, l2]
  refine ACallQ.of (l20Euros_A x2 (by omega) (by omega) _) rfl ?_
  simp -dsimp -implicitDefEqProofs (disch := omega) [go_sem, -List.getD_eq_getElem?_getD, ite_yes, l1, l2, l3]
  refine ACall.of (l20Open_T (x0, x1, x2, x3) _) ?_
  by_cases e : x3 = x2
  · subst e
    simp -dsimp -implicitDefEqProofs (disch := omega) [go_sem, -List.getD_eq_getElem?_getD, ite_yes, l1, l2, l3]
    exact fin_flat rfl (by simp [blText, paidT])
  have e' : x3 < x2 := by omega
  by_cases p : 0 < x3
  · simp -dsimp -implicitDefEqProofs (disch := omega) [go_sem, -List.getD_eq_getElem?_getD, ite_yes, l1, l2, l3, e, e', p]
    refine ACall.of (l20Euros_A x3 (by omega) (by omega) _) ?_
    simp -dsimp -implicitDefEqProofs (disch := omega) [go_sem, -List.getD_eq_getElem?_getD, ite_yes, l1, l2, l3, l4, e, p]
    exact fin_flat rfl (by simp [blText, paidT, e, p])
  · simp -dsimp -implicitDefEqProofs (disch := omega) [go_sem, -List.getD_eq_getElem?_getD, ite_yes, l1, l2, l3, e, e', p]
    exact fin_flat rfl (by simp [blText, paidT, e, p])
theorem iBillText_A (r : Bl) (H : Heap) : AFunC Tryd.prog 22 [.agg #[.int .i64 r.1, .int .i64 r.2.1, .int .i64 r.2.2.1, .int .i64 r.2.2.2]] H (.tuple #[.string (bs (if isBl r = true then blText r else [])), .bool (isBl r)]) H := by
  refine AFunC.of_body Tryd.func22 (by kernel_rfl) rfl (by kernel_rfl) (by simp [Tryd.ntmps22]) ?_
  simp -dsimp -implicitDefEqProofs (disch := omega) [go_sem, -List.getD_eq_getElem?_getD, ite_yes]
  refine ACall.of (isBill_A r _) ?_
  cases h : isBl r
  · simp -dsimp -implicitDefEqProofs (disch := omega) [go_sem, -List.getD_eq_getElem?_getD, ite_yes]
    exact fin_flat rfl rfl
  · simp -dsimp -implicitDefEqProofs (disch := omega) [go_sem, -List.getD_eq_getElem?_getD, ite_yes]
    refine ACall.of (billText_A r h _) ?_
    simp -dsimp -implicitDefEqProofs (disch := omega) [go_sem, -List.getD_eq_getElem?_getD, ite_yes]
    exact fin_flat rfl rfl
theorem sBillText_A (r : Bl) (H : Heap) : AFunC Tryd.prog 23 [.agg #[.int .i64 r.1, .int .i64 r.2.1, .int .i64 r.2.2.1, .int .i64 r.2.2.2]] H (.tuple #[.string (bs (if isBl r = true then blText r else [])), .bool (isBl r)]) H := by
  refine AFunC.of_body Tryd.func23 (by kernel_rfl) rfl (by kernel_rfl) (by simp [Tryd.ntmps23]) ?_
  simp -dsimp -implicitDefEqProofs (disch := omega) [go_sem, -List.getD_eq_getElem?_getD, ite_yes]
  refine ACall.of (l20One_A r _) ?_
  cases h : isBl r
  · simp -dsimp -implicitDefEqProofs (disch := omega) [go_sem, -List.getD_eq_getElem?_getD, ite_yes]
    exact fin_flat rfl rfl
  · simp -dsimp -implicitDefEqProofs (disch := omega) [go_sem, -List.getD_eq_getElem?_getD, ite_yes]
    refine ACall.of (l20Text_A r h _) ?_
    simp -dsimp -implicitDefEqProofs (disch := omega) [go_sem, -List.getD_eq_getElem?_getD, ite_yes]
    exact fin_flat rfl rfl
end Go.Proofs.YthnnbgggfpempaaDoor
