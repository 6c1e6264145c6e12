/- Splitting a text between bytes, in the reference. -/
import Derived.Test.YthnnbgggfpempaaDoorParseN
import Derived.Test.YthnnbgggfpempaaDoorNum
namespace Go.Proofs.YthnnbgggfpempaaDoor
open Go.Am Go.Lib
set_option linter.unusedVariables false
set_option linter.unusedSimpArgs false
set_option maxRecDepth 100000
set_option maxHeartbeats 1000000
/-- the cell of a text -/
def wdE (w : List UInt8) : List Value := [.string (bs w)]
theorem wdE_flat (l : List (List UInt8)) : (l.flatMap wdE).all flat = true := flatMap_flat fun _ => rfl
theorem wdE_length (l : List (List UInt8)) : (l.flatMap wdE).length = l.length := by rw [flatMap_length wdE 1 (fun _ => rfl)]; omega
structure SpI where
  i : Nat
  f : Nat
  out : List (List UInt8)
theorem l1Split_A (l : List UInt8) (b : UInt8) (hl : l.length ≤ 1048577) (H : Heap) : AFunC Tryd.prog 62 [.string (bs l), .int .u8 b.toNat] H (.slice (some ⟨H.length, 0, none⟩) (splitB b l).length (splitB b l).length) (H ++ [some ⟨(splitB b l).flatMap wdE, true, 9, 1⟩]) := by
  refine AFunC.of_body Tryd.func62 (by kernel_rfl) rfl (by kernel_rfl) (by simp [Tryd.ntmps62]) ?_
  have hbb := b.toNat_lt
  simp -dsimp -implicitDefEqProofs (disch := omega) [go_sem, -List.getD_eq_getElem?_getD, ite_yes]
  refine ALoop.intro (ι := SpI) (fun q => q.i ≤ l.length ∧ q.f ≤ q.i ∧ q.out.length ≤ q.i ∧ splitS b q.out ((l.take q.i).drop q.f) (l.drop q.i) = splitB b l)
    (fun q => [(0, .string (bs l)), (1, .int .u8 b.toNat), (5, .slice (some ⟨H.length, 0, none⟩) q.out.length q.out.length), (6, .int .i64 q.f), (7, .int .i64 q.i)])
    (fun q => H ++ [some ⟨q.out.flatMap wdE, true, 9, 1⟩]) (fun q => l.length - q.i) ⟨0, 0, []⟩ ⟨by simp, by simp, by simp, by simpa using splitS_start b l⟩ ?_ ?_
  · refine weakS_mk [some 0] rfl ?_ (by simp -dsimp -implicitDefEqProofs (disch := omega) [go_sem, -List.getD_eq_getElem?_getD, ite_yes])
    simp -dsimp -implicitDefEqProofs (disch := omega) [go_sem, -List.getD_eq_getElem?_getD, ite_yes]
    exact .inl ⟨rfl, rfl⟩
  rintro ⟨i, f, out⟩ ⟨h1, h2, h3, h4⟩
  simp only at h1 h2 h3 h4
  have lf := wdE_length out
  by_cases hlt : i < l.length
  · have hlti : (i : Int) < (l.length : Int) := by omega
    obtain ⟨x, hx⟩ : ∃ x, l[i] = x := ⟨_, rfl⟩
    have hd : l.drop i = x :: l.drop (i + 1) := by rw [List.drop_eq_getElem_cons hlt, hx]
    rw [hd] at h4
    by_cases hb : x = b
    · subst hb
      rw [splitS_yes] at h4
      have ef : ((l.take i).drop f) = (l.drop f).take (i - f) := by rw [List.drop_take]
      have lf2 := wdE_length (out ++ [(l.take i).drop f])
      simp -dsimp -implicitDefEqProofs (disch := omega) [go_sem, -List.getD_eq_getElem?_getD, ite_yes, hlt, hlti, hx, lf]
      refine ⟨by omega, LoopEnd.of ⟨i + 1, i + 1, out ++ [(l.take i).drop f]⟩ ⟨by simp only; omega, by simp only; omega, by simp only [List.length_append, List.length_singleton]; omega, ?_⟩ (by simp only; omega) (weakS_mk [some 2] rfl ?_ (by simp -dsimp -implicitDefEqProofs (disch := omega) [go_sem, -List.getD_eq_getElem?_getD, ite_yes]))⟩
      · simp only
        rw [show (l.take (i + 1)).drop (i + 1) = [] from List.drop_of_length_le (by simp; omega)]
        exact h4
      · simp -dsimp -implicitDefEqProofs (disch := omega) [go_sem, -List.getD_eq_getElem?_getD, ite_yes]
        exact .inl ⟨by simp [wdE], by simp [wdE, flat]⟩
    · have hbn : ¬ ((x.toNat : Nat) : Int) = (b.toNat : Nat) := by
        intro e
        exact hb (UInt8.toNat_inj.1 (by omega))
      rw [splitS_no hb] at h4
      simp -dsimp -implicitDefEqProofs (disch := omega) [go_sem, -List.getD_eq_getElem?_getD, ite_yes, hlt, hlti, hx, lf, hbn]
      refine LoopEnd.of ⟨i + 1, f, out⟩ ⟨by simp only; omega, by simp only; omega, by simp only; omega, ?_⟩ (by simp only; omega) (weakS_mk [some 0] rfl ?_ (by simp -dsimp -implicitDefEqProofs (disch := omega) [go_sem, -List.getD_eq_getElem?_getD, ite_yes]))
      · simp only
        rw [← h4]
        congr 1
        rw [List.take_succ_eq_append_getElem hlt, hx, List.drop_append_of_le_length (by simp; omega)]
      · simp -dsimp -implicitDefEqProofs (disch := omega) [go_sem, -List.getD_eq_getElem?_getD, ite_yes]
        exact .inl ⟨rfl, wdE_flat _⟩
  · obtain rfl : i = l.length := by omega
    have hlti : ¬ (l.length : Int) < (l.length : Int) := by omega
    rw [List.drop_length, splitS_nil, List.take_length] at h4
    simp -dsimp -implicitDefEqProofs (disch := omega) [go_sem, -List.getD_eq_getElem?_getD, ite_yes, hlt, hlti, lf]
    rw [← h4]
    refine ⟨by omega, fin_list [some 2] rfl ?_ (by simp -dsimp -implicitDefEqProofs (disch := omega) [go_sem, -List.getD_eq_getElem?_getD, ite_yes])⟩
    simp -dsimp -implicitDefEqProofs (disch := omega) [go_sem, -List.getD_eq_getElem?_getD, ite_yes]
    exact .inl ⟨by simp [wdE], by simp [wdE, flat]⟩
end Go.Proofs.YthnnbgggfpempaaDoor
