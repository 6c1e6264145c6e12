/- The end of an assignment; copies of numbers. -/
import Derived.Test.YthajahknincjjaaAssign
namespace Go.Proofs.Ythajahknincjjaa
open Go.Am
set_option linter.unusedVariables false
set_option linter.unusedSimpArgs false
set_option maxRecDepth 100000
set_option maxHeartbeats 1000000

/-- the end of an assignment -/
def endN (l : List Tk) (crews : Int) (a : List Int) : Int := mxTo (loadTo l crews a a.length) crews.toNat
theorem mxTo_bound {s : List Int} {B : Int} (h : ∀ q, 0 ≤ s.getD q 0 ∧ s.getD q 0 ≤ B) (hB : 0 ≤ B) : ∀ k, 0 ≤ mxTo s k ∧ mxTo s k ≤ B
  | 0 => by simp [mxTo, hB]
  | k + 1 => by
    have := mxTo_bound h hB k
    have := h k
    simp only [mxTo]; omega
theorem endN_bound {l : List Tk} {crews : Int} {a : List Int} (h : AsgAt l crews a) : 0 ≤ endN l crews a ∧ endN l crews a ≤ 3360 := by
  have h12 := (goodT_at h.f_good).1
  have hl := h.f_len
  refine mxTo_bound (B := 3360) (fun q => ?_) (by omega) _
  have := loadTo_bound h a.length (by omega) q
  omega
theorem endOf_A (l : List Tk) (crews : Int) (a : List Int) (h : AsgAt l crews a) (c c2 : Nat) (H : Heap) (t u : Nat) (hS : Sl tkE H t l) (hU : Sl nmE H u a) :
    AFunC Try.prog 32 [.slice (some ⟨t, 0, none⟩) l.length c, .int .i64 crews, .slice (some ⟨u, 0, none⟩) a.length c2] H (.int .i64 (endN l crews a)) H := by
  refine AFunC.of_body Try.func32 (by kernel_rfl) rfl (by kernel_rfl) (by simp [Try.ntmps32]) ?_
  have ht := hS.lt
  have hu := hU.lt
  have h1 := h.f_crews
  have ll := loadTo_length l crews a a.length
  have hb := loadTo_bound h a.length (by have := h.f_len; omega)
  simp -dsimp -implicitDefEqProofs (disch := omega) [go_sem, -List.getD_eq_getElem?_getD, ite_yes]
  refine ACall.of (loadsOf_A l crews a h c c2 _ t u hS hU) ?_
  simp -dsimp -implicitDefEqProofs (disch := omega) [go_sem, -List.getD_eq_getElem?_getD, ite_yes]
  refine ACall.of (maxNm_A (loadTo l crews a a.length) (by omega) (fun i _ => (hb i).1) (by omega) _ _ _ (Sl.of rfl)) ?_
  simp -dsimp -implicitDefEqProofs (disch := omega) [go_sem, -List.getD_eq_getElem?_getD, ite_yes]
  exact fin_flat rfl (by unfold endN; rw [← ll])
theorem l22End_A (l : List Tk) (crews : Int) (a : List Int) (h : AsgAt l crews a) (c c2 : Nat) (H : Heap) (t u : Nat) (hS : Sl tkE H t l) (hU : Sl nmE H u a) :
    AFunC Try.prog 40 [.slice (some ⟨t, 0, none⟩) l.length c, .int .i64 crews, .slice (some ⟨u, 0, none⟩) a.length c2] H (.int .i64 (endN l crews a)) H := by
  refine AFunC.of_body Try.func40 (by kernel_rfl) rfl (by kernel_rfl) (by simp [Try.ntmps40]) ?_
  have ht := hS.lt
  have hu := hU.lt
  have h1 := h.f_crews
  have ll := loadTo_length l crews a a.length
  simp -dsimp -implicitDefEqProofs (disch := omega) [go_sem, -List.getD_eq_getElem?_getD, ite_yes]
  refine ACall.of (l22Loads_A l crews a h c c2 _ t u hS hU) ?_
  unfold endN
  generalize loadTo l crews a a.length = s at *
  have hfl : (s.flatMap nmE).length = s.length := by rw [nmE_length]; omega
  simp -dsimp -implicitDefEqProofs (disch := omega) [go_sem, -List.getD_eq_getElem?_getD, ite_yes]
  refine ALoop.intro (ι := Nat) (fun k => k ≤ s.length) (fun k => [(7, .int .i64 (mxTo s k)), (8, .slice (some ⟨H.length, 0, none⟩) s.length s.length), (9, .int .i64 k)]) (fun _ => H ++ [some ⟨s.flatMap nmE, true, 3, 1⟩]) (fun k => s.length - k) 0 (by omega) ?_ ?_
  · refine weakS_mk [some 0] rfl ?_ (by simp -dsimp -implicitDefEqProofs (disch := omega) [go_sem, -List.getD_eq_getElem?_getD, ite_yes, ht, mxTo])
    simp -dsimp -implicitDefEqProofs (disch := omega) [go_sem, -List.getD_eq_getElem?_getD, ite_yes]
    exact .inl ⟨rfl, nmE_flat _⟩
  · intro k hk
    by_cases hlt : k < s.length
    · have c1 := nm_cell s hlt
      simp -dsimp -implicitDefEqProofs (disch := omega) [go_sem, -List.getD_eq_getElem?_getD, ite_yes, hlt, hfl, c1]
      refine ACall.of (l1Most_A _ _ _) ?_
      simp -dsimp -implicitDefEqProofs (disch := omega) [go_sem, -List.getD_eq_getElem?_getD, ite_yes]
      refine LoopEnd.of (k + 1) (by omega) (by omega) (weakS_mk [some 0] rfl ?_ (by simp -dsimp -implicitDefEqProofs (disch := omega) [go_sem, -List.getD_eq_getElem?_getD, ite_yes, ht, mxTo]))
      simp -dsimp -implicitDefEqProofs (disch := omega) [go_sem, -List.getD_eq_getElem?_getD, ite_yes]
      exact .inl ⟨rfl, nmE_flat _⟩
    · simp -dsimp -implicitDefEqProofs (disch := omega) [go_sem, -List.getD_eq_getElem?_getD, ite_yes, hlt]
      have : k = crews.toNat := by omega
      subst this
      exact fin_flat rfl rfl
theorem copyInts_A (a : List Int) (ha : a.length ≤ 1048577) (c2 : Nat) (H : Heap) (u : Nat) (hU : Sl nmE H u a) :
    AFunC Try.prog 31 [.slice (some ⟨u, 0, none⟩) a.length c2] H (.slice (some ⟨H.length, 0, none⟩) a.length a.length) (H ++ [some ⟨a.flatMap nmE, true, 3, 1⟩]) := by
  refine AFunC.of_body Try.func31 (by kernel_rfl) rfl (by kernel_rfl) (by simp [Try.ntmps31]) ?_
  have hu := hU.lt
  have al := hU.all (s := 1) (fun _ => rfl)
  rw [Nat.mul_one] at al
  simp -dsimp -implicitDefEqProofs (disch := omega) [go_sem, -List.getD_eq_getElem?_getD, ite_yes, hu, al]
  refine ⟨by omega, fin_list [some 1] rfl ?_ (by simp -dsimp -implicitDefEqProofs (disch := omega) [go_sem, -List.getD_eq_getElem?_getD, ite_yes, hu])⟩
  simp -dsimp -implicitDefEqProofs (disch := omega) [go_sem, -List.getD_eq_getElem?_getD, ite_yes]
  exact .inl ⟨rfl, nmE_flat _⟩
theorem l1Own_A (a : List Int) (ha : a.length ≤ 1048577) (c2 : Nat) (H : Heap) (u : Nat) (hU : Sl nmE H u a) :
    AFunC Try.prog 41 [.slice (some ⟨u, 0, none⟩) a.length c2] H (.slice (some ⟨H.length, 0, none⟩) a.length a.length) (H ++ [some ⟨a.flatMap nmE, true, 3, 1⟩]) := by
  refine AFunC.of_body Try.func41 (by kernel_rfl) rfl (by kernel_rfl) (by simp [Try.ntmps41]) ?_
  have hu := hU.lt
  have al := hU.all (s := 1) (fun _ => rfl)
  rw [Nat.mul_one] at al
  simp -dsimp -implicitDefEqProofs (disch := omega) [go_sem, -List.getD_eq_getElem?_getD, ite_yes, hu, al]
  refine ⟨by omega, fin_list [some 1] rfl ?_ (by simp -dsimp -implicitDefEqProofs (disch := omega) [go_sem, -List.getD_eq_getElem?_getD, ite_yes, hu])⟩
  simp -dsimp -implicitDefEqProofs (disch := omega) [go_sem, -List.getD_eq_getElem?_getD, ite_yes]
  exact .inl ⟨rfl, nmE_flat _⟩
end Go.Proofs.Ythajahknincjjaa
