/- Texts that are drawn: a text with a byte more, less, or another one. -/
import Derived.Test.YthnnbgggfpempaaDoorDraw
import Derived.Test.YthnnbgggfpempaaDoorDrawBy
import Derived.Test.YthnnbgggfpempaaDoorNum
namespace Go.Proofs.YthnnbgggfpempaaDoor
open Go.Am Go.Lib
set_option linter.unusedVariables false
set_option linter.unusedSimpArgs false
set_option maxRecDepth 100000
set_option maxHeartbeats 1000000
/-- a text that is not longer than m, behind which the cursor has gone on -/
def PTx (H : Heap) (t tc n cc : Nat) (at_ : Int) (m : Nat) (v : Value) (H' : Heap) : Prop := ∃ l : List UInt8, v = .string (bs l) ∧ l.length ≤ m ∧ Went H t tc n cc at_ 6 H'
theorem spoilt_R {H : Heap} {t tc n cc : Nat} {at_ seed : Int} (h : Cur H t tc n cc at_ seed) (hA : at_ ≤ 1000000000000000) (l w : List UInt8) (hl : l.length ≤ 1000) (hw : w.length ≤ 1000) (hw0 : 0 < w.length) :
    AFunR Tryd.prog 61 [.pointer (some ⟨t, 0, none⟩), .string (bs l), .string (bs w)] H (PTx H t tc n cc at_ (l.length + 1)) := by
  refine AFunR.of_body Tryd.func61 (by kernel_rfl) rfl (by kernel_rfl) (by simp [Tryd.ntmps61]) ?_
  have ht := h.lt
  have p0 := h.pos
  by_cases h0 : l = []
  · subst h0
    simp -dsimp -implicitDefEqProofs (disch := omega) [go_sem, -List.getD_eq_getElem?_getD, ite_yes]
    exact EndR.of (.string (bs (w.take 1))) H ⟨w.take 1, rfl, by simp; omega, at_, seed, by omega, by omega, (Heap.set_self h.blk).symm⟩ (fin_flat0 rfl rfl)
  have hpos : 0 < l.length := List.length_pos_iff.2 h0
  have hb := beq_false_of_ne h0
  simp -dsimp -implicitDefEqProofs (disch := omega) [go_sem, -List.getD_eq_getElem?_getD, ite_yes, h0, hb]
  refine ACall.via (pick_R h (by omega) l.length (by omega)) ?_
  rintro _ _ ⟨i, rfl, i0, i1, a1, s1, q1, q1', rfl⟩
  obtain ⟨i, rfl⟩ : ∃ k : Nat, i = (k : Int) := ⟨i.toNat, by omega⟩
  have hi : i < l.length := by omega
  simp -dsimp -implicitDefEqProofs (disch := omega) [go_sem, -List.getD_eq_getElem?_getD, ite_yes, h0, hb]
  refine ACall.via (pick_R (h.step (by omega)) (by omega) w.length (by omega)) ?_
  rintro _ _ ⟨k, rfl, k0, k1, a2, s2, q2, q2', rfl⟩
  obtain ⟨k, rfl⟩ : ∃ j : Nat, k = (j : Int) := ⟨k.toNat, by omega⟩
  have hk : k < w.length := by omega
  have hk1 : 1 ≤ w.length - k := by omega
  simp -dsimp -implicitDefEqProofs (disch := omega) [go_sem, -List.getD_eq_getElem?_getD, ite_yes, h0, hb, hi, hk, hk1, List.set_set]
  refine ACall.via (pick_R (h.step (by omega)) (by omega) 3 (by omega)) ?_
  rintro _ _ ⟨r, rfl, r0, r1, a3, s3, q3, q3', rfl⟩
  have hr : r = 0 ∨ r = 1 ∨ r = 2 := by omega
  rcases hr with rfl | rfl | rfl
  · simp -dsimp -implicitDefEqProofs (disch := omega) [go_sem, -List.getD_eq_getElem?_getD, ite_yes, hi, hk, hk1, List.set_set]
    refine ADraw.quiet (by kernel_rfl) (by kernel_rfl) (by kernel_rfl) ?_
    simp -dsimp -implicitDefEqProofs (disch := omega) [go_sem, -List.getD_eq_getElem?_getD, ite_yes, hi, hk, hk1, List.set_set]
    exact went_flat0 h a3 s3 rfl ⟨_, rfl, by simp; omega, a3, s3, by omega, by omega, rfl⟩
  · simp -dsimp -implicitDefEqProofs (disch := omega) [go_sem, -List.getD_eq_getElem?_getD, ite_yes, hi, hk, hk1, List.set_set]
    refine ADraw.quiet (by kernel_rfl) (by kernel_rfl) (by kernel_rfl) ?_
    simp -dsimp -implicitDefEqProofs (disch := omega) [go_sem, -List.getD_eq_getElem?_getD, ite_yes, hi, hk, hk1, List.set_set]
    exact went_flat0 h a3 s3 rfl ⟨_, rfl, by simp; omega, a3, s3, by omega, by omega, rfl⟩
  · simp -dsimp -implicitDefEqProofs (disch := omega) [go_sem, -List.getD_eq_getElem?_getD, ite_yes, hi, hk, hk1, List.set_set]
    refine ADraw.quiet (by kernel_rfl) (by kernel_rfl) (by kernel_rfl) ?_
    simp -dsimp -implicitDefEqProofs (disch := omega) [go_sem, -List.getD_eq_getElem?_getD, ite_yes, hi, hk, hk1, List.set_set]
    exact went_flat0 h a3 s3 rfl ⟨_, rfl, by simp; omega, a3, s3, by omega, by omega, rfl⟩
end Go.Proofs.YthnnbgggfpempaaDoor
