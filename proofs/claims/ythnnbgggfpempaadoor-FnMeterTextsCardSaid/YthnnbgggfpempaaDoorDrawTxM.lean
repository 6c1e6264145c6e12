/- Readings' texts that are drawn. -/
import Derived.Test.YthnnbgggfpempaaDoorDrawTx
import Derived.Test.YthnnbgggfpempaaDoorDrawRds
import Derived.Test.YthnnbgggfpempaaDoorTxRd
namespace Go.Proofs.YthnnbgggfpempaaDoor
open Go.Am Go.Lib
set_option linter.unusedVariables false
set_option linter.unusedSimpArgs false
set_option maxRecDepth 100000
set_option maxHeartbeats 1000000
theorem l19Text_N (d c : Nat) (hd : d ≤ 100000) (hc : c ≤ 99999) (H : Heap) : AFunC Tryd.prog 58 [.agg #[.int .i64 d, .int .i64 c]] H (.string (bs (rdText ((d : Int), (c : Int))))) H := by
  refine AFunC.of_body Tryd.func58 (by kernel_rfl) rfl (by kernel_rfl) (by simp [Tryd.ntmps58]) ?_
  have l1 := itoa_len (n := (d : Int)) (by omega) (by omega)
  have l2 := digN_length 5 c
  simp -dsimp -implicitDefEqProofs (disch := omega) [go_sem, -List.getD_eq_getElem?_getD, ite_yes]
  refine ADraw.quiet (by kernel_rfl) (by kernel_rfl) (by kernel_rfl) ?_
  simp -dsimp -implicitDefEqProofs (disch := omega) [go_sem, -List.getD_eq_getElem?_getD, ite_yes]
  refine ACallQ.of (l1Num_A (d : Int) (by omega) (by omega) _) rfl ?_
  simp -dsimp -implicitDefEqProofs (disch := omega) [go_sem, -List.getD_eq_getElem?_getD, ite_yes, l1]
  refine ACallQ.of (l3Digits_A c 5 (by omega) (by omega) (by omega) _) rfl ?_
  simp -dsimp -implicitDefEqProofs (disch := omega) [go_sem, -List.getD_eq_getElem?_getD, ite_yes, l1, l2]
  exact fin_flat rfl (by simp [rdText])
theorem rdText_lenN (d c : Nat) (hd : d ≤ 100000) : (rdText ((d : Int), (c : Int))).length ≤ 100 := by
  have := dec_len (n := d) (by omega)
  simp only [rdText, itoa_nat, List.length_append, List.length_cons, digN_length]
  omega
def PRd (H : Heap) (v : Value) (H' : Heap) : Prop := ∃ r : Rd, v = .agg #[.int .i64 r.1, .int .i64 r.2] ∧ H' = H
def PStr (H : Heap) (m : Nat) (v : Value) (H' : Heap) : Prop := ∃ l : List UInt8, v = .string (bs l) ∧ l.length ≤ m ∧ H' = H
theorem drawReadingText_R {H : Heap} {tc n : Nat} (h : Bytes H tc n) (cc : Nat) : AFunR Tryd.prog 7 [.slice (some ⟨tc, 0, none⟩) n cc] H (PRd H) := by
  refine AFunR.of_body Tryd.func7 (by kernel_rfl) rfl (by kernel_rfl) (by simp [Tryd.ntmps7]) ?_
  have ht := h.lt
  have hc := h.cur cc
  simp -dsimp -implicitDefEqProofs (disch := omega) [go_sem, -List.getD_eq_getElem?_getD, ite_yes]
  refine ACall.via (among_R (h.curJ 1 rfl (by omega)) (by omega) [0, 7, 3650, -1, 3651] (by simp) (by simp) _ _ (by omega) (Sl.nth 2 rfl rfl)) ?_
  rintro _ _ ⟨x, rfl, xm, a1, s1, q1, q1', rfl⟩
  simp -dsimp -implicitDefEqProofs (disch := omega) [go_sem, -List.getD_eq_getElem?_getD, ite_yes]
  refine ACall.via (among_R (h.curJ 1 rfl (by omega)) (by omega) [0, 5, 4711, 99999, 100000, -1] (by simp) (by simp) _ _ (by omega) (Sl.nth 3 rfl rfl)) ?_
  rintro _ _ ⟨y, rfl, ym, a2, s2, q2, q2', rfl⟩
  simp -dsimp -implicitDefEqProofs (disch := omega) [go_sem, -List.getD_eq_getElem?_getD, ite_yes]
  exact EndR.of (.agg #[.int .i64 x, .int .i64 y]) H ⟨(x, y), rfl, rfl⟩ (fin_flat rfl rfl)
theorem drawParseReading_R {H : Heap} {tc n : Nat} (h : Bytes H tc n) (cc : Nat) : AFunR Tryd.prog 11 [.slice (some ⟨tc, 0, none⟩) n cc] H (PStr H 1000) := by
  refine AFunR.of_body Tryd.func11 (by kernel_rfl) rfl (by kernel_rfl) (by simp [Tryd.ntmps11]) ?_
  have ht := h.lt
  have hc := h.cur cc
  simp -dsimp -implicitDefEqProofs (disch := omega) [go_sem, -List.getD_eq_getElem?_getD, ite_yes]
  refine ACall.via (among_R (h.curJ 0 rfl (by omega)) (by omega) [0, 7, 3650, 3651] (by simp) (by simp) _ _ (by omega) (Sl.nth 1 rfl rfl)) ?_
  rintro _ _ ⟨x, rfl, xm, a1, s1, q1, q1', rfl⟩
  simp -dsimp -implicitDefEqProofs (disch := omega) [go_sem, -List.getD_eq_getElem?_getD, ite_yes]
  refine ACall.via (among_R (h.curJ 0 rfl (by omega)) (by omega) [0, 5, 4711, 99999] (by simp) (by simp) _ _ (by omega) (Sl.nth 2 rfl rfl)) ?_
  rintro _ _ ⟨y, rfl, ym, a2, s2, q2, q2', rfl⟩
  obtain ⟨d, rfl, hd⟩ : ∃ d : Nat, x = (d : Int) ∧ d ≤ 3651 := ⟨x.toNat, by simp at xm; omega, by simp at xm; omega⟩
  obtain ⟨c, rfl, hc'⟩ : ∃ c : Nat, y = (c : Int) ∧ c ≤ 99999 := ⟨y.toNat, by simp at ym; omega, by simp at ym; omega⟩
  have ll := rdText_lenN d c (by omega)
  simp -dsimp -implicitDefEqProofs (disch := omega) [go_sem, -List.getD_eq_getElem?_getD, ite_yes]
  refine ACall.of (l19Text_N d c (by omega) hc' _) ?_
  simp -dsimp -implicitDefEqProofs (disch := omega) [go_sem, -List.getD_eq_getElem?_getD, ite_yes]
  refine ACall.via (one_R (h.curJ 0 rfl (by omega)) (by omega) 3 (by omega)) ?_
  rintro _ _ ⟨b, rfl, a3, s3, q3, q3', rfl⟩
  cases b
  · simp -dsimp -implicitDefEqProofs (disch := omega) [go_sem, -List.getD_eq_getElem?_getD, ite_yes]
    exact EndR.of (.string (bs (rdText ((d : Int), (c : Int))))) H ⟨_, rfl, by omega, rfl⟩ (fin_flat rfl rfl)
  · simp -dsimp -implicitDefEqProofs (disch := omega) [go_sem, -List.getD_eq_getElem?_getD, ite_yes]
    refine ACall.via (spoilt_R (h.curJ 0 rfl (by omega)) (by omega) (rdText ((d : Int), (c : Int))) [100, 97, 121, 32, 58, 48] (by omega) (by simp) (by simp)) ?_
    rintro _ _ ⟨l, rfl, l1, a4, s4, q4, q4', rfl⟩
    simp -dsimp -implicitDefEqProofs (disch := omega) [go_sem, -List.getD_eq_getElem?_getD, ite_yes]
    exact EndR.of (.string (bs l)) H ⟨l, rfl, by omega, rfl⟩ (fin_flat rfl rfl)
end Go.Proofs.YthnnbgggfpempaaDoor
