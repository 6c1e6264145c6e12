/- UsesOf: both sides, and the law. -/
import Derived.Test.YtfpikkhbkmchgaaUses
namespace Go.Proofs.Ytfpikkhbkmchgaa
open Go.Am
set_option linter.unusedVariables false
set_option linter.unusedSimpArgs false
set_option maxRecDepth 100000
set_option maxHeartbeats 1000000

theorem iUsesOf_bad (l : List Rd) (hl : l.length ≤ 1048577) (hg : good l = false) (c : Nat) (H : Heap) (t : Nat) (hS : Sl rdE H t l) :
    AFunC Try.prog 6 [.slice (some ⟨t, 0, none⟩) l.length c] H (.tuple #[.slice none 0 0, .bool false]) H := by
  refine AFunC.of_body Try.func6 (by kernel_rfl) rfl (by kernel_rfl) (by simp [Try.ntmps6]) ?_
  have ht := hS.lt
  simp -dsimp -implicitDefEqProofs (disch := omega) [go_sem, -List.getD_eq_getElem?_getD, ite_yes]
  refine ACall.of (iValidReadings_A l hl c H t hS) ?_
  simp -dsimp -implicitDefEqProofs (disch := omega) [go_sem, -List.getD_eq_getElem?_getD, ite_yes, hg]
  exact fin_flat0 rfl rfl
theorem iUsesOf_good (l : List Rd) (hl : l.length ≤ 1048577) (hg : good l = true) (c : Nat) (H : Heap) (t : Nat) (hS : Sl rdE H t l) :
    AFunC Try.prog 6 [.slice (some ⟨t, 0, none⟩) l.length c] H (.tuple #[.slice (some ⟨H.length, 0, none⟩) (uses l).length (uses l).length, .bool true]) (H ++ [some ⟨(uses l).flatMap nmE, true, 3, 1⟩]) := by
  refine AFunC.of_body Try.func6 (by kernel_rfl) rfl (by kernel_rfl) (by simp [Try.ntmps6]) ?_
  have ht := hS.lt
  simp -dsimp -implicitDefEqProofs (disch := omega) [go_sem, -List.getD_eq_getElem?_getD, ite_yes]
  refine ACall.of (iValidReadings_A l hl c H t hS) ?_
  simp -dsimp -implicitDefEqProofs (disch := omega) [go_sem, -List.getD_eq_getElem?_getD, ite_yes, hg]
  refine ACall.of (usesOf_A l hg c H t hS) ?_
  simp -dsimp -implicitDefEqProofs (disch := omega) [go_sem, -List.getD_eq_getElem?_getD, ite_yes]
  refine fin_list [some 0] rfl ?_ (by simp -dsimp -implicitDefEqProofs (disch := omega) [go_sem, -List.getD_eq_getElem?_getD, ite_yes, ht])
  simp -dsimp -implicitDefEqProofs (disch := omega) [go_sem, -List.getD_eq_getElem?_getD, ite_yes]
  exact .inl ⟨rfl, nmE_flat _⟩
theorem sUsesOf_bad (l : List Rd) (hl : l.length ≤ 1048577) (hg : good l = false) (c : Nat) (H : Heap) (t : Nat) (hS : Sl rdE H t l) :
    AFunC Try.prog 8 [.slice (some ⟨t, 0, none⟩) l.length c] H (.tuple #[.slice (some ⟨H.length, 0, none⟩) 0 0, .bool false]) (H ++ [some ⟨[], true, 3, 1⟩]) := by
  refine AFunC.of_body Try.func8 (by kernel_rfl) rfl (by kernel_rfl) (by simp [Try.ntmps8]) ?_
  have ht := hS.lt
  simp -dsimp -implicitDefEqProofs (disch := omega) [go_sem, -List.getD_eq_getElem?_getD, ite_yes]
  refine ACall.of (l19Good_A l hl c _ t hS.app) ?_
  simp -dsimp -implicitDefEqProofs (disch := omega) [go_sem, -List.getD_eq_getElem?_getD, ite_yes, hg]
  refine fin_list [some 0] rfl ?_ (by simp -dsimp -implicitDefEqProofs (disch := omega) [go_sem, -List.getD_eq_getElem?_getD, ite_yes, ht])
  simp -dsimp -implicitDefEqProofs (disch := omega) [go_sem, -List.getD_eq_getElem?_getD, ite_yes]
  exact .inl ⟨rfl, rfl⟩
theorem sUsesOf_good (l : List Rd) (hl : l.length ≤ 1048577) (hg : good l = true) (c : Nat) (H : Heap) (t : Nat) (hS : Sl rdE H t l) :
    AFunC Try.prog 8 [.slice (some ⟨t, 0, none⟩) l.length c] H (.tuple #[.slice (some ⟨H.length, 0, none⟩) (uses l).length (uses l).length, .bool true]) (H ++ [some ⟨(uses l).flatMap nmE, true, 3, 1⟩]) := by
  refine AFunC.of_body Try.func8 (by kernel_rfl) rfl (by kernel_rfl) (by simp [Try.ntmps8]) ?_
  obtain ⟨h12, hat⟩ := good_at hg
  have ht := hS.lt
  have cs := fun k hk => hS.cells (s := 2) (fun _ => rfl) (0, 0) k hk
  simp only [rdE] at cs
  simp -dsimp -implicitDefEqProofs (disch := omega) [go_sem, -List.getD_eq_getElem?_getD, ite_yes]
  refine ACall.of (l19Good_A l hl c _ t hS.app) ?_
  simp -dsimp -implicitDefEqProofs (disch := omega) [go_sem, -List.getD_eq_getElem?_getD, ite_yes, hg]
  refine ALoop.intro (ι := Nat) (fun k => 1 ≤ k ∧ k ≤ max 1 l.length) (fun k => [(0, .slice (some ⟨t, 0, none⟩) l.length c), (4, .slice (some ⟨H.length, 0, none⟩) (k - 1) (k - 1)), (5, .int .i64 k)]) (fun k => H ++ [some ⟨(usesTo l k).flatMap nmE, true, 3, 1⟩]) (fun k => max 1 l.length - k) 1 ⟨by omega, by omega⟩ ?_ ?_
  · refine weakS_mk [some 0] rfl ?_ (by simp -dsimp -implicitDefEqProofs (disch := omega) [go_sem, -List.getD_eq_getElem?_getD, ite_yes, ht])
    simp -dsimp -implicitDefEqProofs (disch := omega) [go_sem, -List.getD_eq_getElem?_getD, ite_yes, usesTo_one]
    exact .inl ⟨rfl, rfl⟩
  · rintro k ⟨hk, hk'⟩
    by_cases hlt : k < l.length
    · have b1 := hat k hlt
      have b2 := hat (k - 1) (by omega)
      have hfl : ((usesTo l k).flatMap nmE).length = k - 1 := by rw [flatMap_length nmE 1 (fun _ => rfl), usesTo_length]; omega
      simp -dsimp -implicitDefEqProofs (disch := omega) [go_sem, -List.getD_eq_getElem?_getD, ite_yes, hlt]
      refine ADraw.any (H ++ [none]) (by kernel_rfl) (by first | exact SubH.refl | exact SubH.app | exact SubH.both (by simp [subL])) ?_
      refine AAny.takes (fuel := 4) (by kernel_rfl) (by kernel_rfl) [0, 1, 2, 3, 4, 5, 6, 7, 8, 9] (by kernel_rfl) (by kernel_rfl) ?_
      simp -dsimp -implicitDefEqProofs (disch := omega) [go_sem, -List.getD_eq_getElem?_getD, ite_yes, hlt, cs, ht, hfl]
      refine AAny.one 3 10 (by kernel_rfl) (by kernel_rfl) (by kernel_rfl) ?_
      simp -dsimp -implicitDefEqProofs (disch := omega) [go_sem, -List.getD_eq_getElem?_getD, ite_yes, hlt, cs, ht, hfl]
      refine ACall.of (l19Use_A (l.getD (k - 1) (0, 0)) (l.getD k (0, 0)) (by omega) (by omega) _) ?_
      simp -dsimp -implicitDefEqProofs (disch := omega) [go_sem, -List.getD_eq_getElem?_getD, ite_yes, hlt, cs, ht, hfl]
      first | refine AAt.of (by first | exact SubH.refl | exact SubH.app | exact SubH.both (by simp [subL])) ?_ | (refine ⟨?_, AAt.of (by first | exact SubH.refl | exact SubH.app | exact SubH.both (by simp [subL])) ?_⟩; · omega)
      refine AAny.one 2 11 (by kernel_rfl) (by kernel_rfl) (by kernel_rfl) ?_
      simp -dsimp -implicitDefEqProofs (disch := omega) [go_sem, -List.getD_eq_getElem?_getD, ite_yes, hlt, cs, ht, hfl]
      first | refine AAt.of (by first | exact SubH.refl | exact SubH.app | exact SubH.both (by simp [subL])) ?_ | (refine ⟨?_, AAt.of (by first | exact SubH.refl | exact SubH.app | exact SubH.both (by simp [subL])) ?_⟩; · omega)
      refine AAny.one 1 12 (by kernel_rfl) (by kernel_rfl) (by kernel_rfl) ?_
      simp -dsimp -implicitDefEqProofs (disch := omega) [go_sem, -List.getD_eq_getElem?_getD, ite_yes, hlt, cs, ht, hfl]
      first | refine AAt.of (by first | exact SubH.refl | exact SubH.app | exact SubH.both (by simp [subL])) ?_ | (refine ⟨?_, AAt.of (by first | exact SubH.refl | exact SubH.app | exact SubH.both (by simp [subL])) ?_⟩; · omega)
      refine AAny.takes (fuel := 0) (by kernel_rfl) (by kernel_rfl) [13] (by kernel_rfl) (by kernel_rfl) ?_
      simp -dsimp -implicitDefEqProofs (disch := omega) [go_sem, -List.getD_eq_getElem?_getD, ite_yes, hlt, cs, ht, hfl]
      refine AAny.done (by kernel_rfl) ?_
      simp -dsimp -implicitDefEqProofs (disch := omega) [go_sem, -List.getD_eq_getElem?_getD, ite_yes, hlt, cs, ht, hfl]
      have e : (usesTo l (k + 1)).flatMap nmE = (usesTo l k).flatMap nmE ++ [.int .i64 (useOf (l.getD (k - 1) (0, 0)) (l.getD k (0, 0)))] := by
        rw [usesTo_next hk, List.flatMap_append]
        simp [nmE]
      refine LoopEnd.of (k + 1) (by omega) (by omega) (weakS_mk [some 2] rfl ?_ (by simp -dsimp -implicitDefEqProofs (disch := omega) [go_sem, -List.getD_eq_getElem?_getD, ite_yes, ht]))
      simp -dsimp -implicitDefEqProofs (disch := omega) [go_sem, -List.getD_eq_getElem?_getD, ite_yes]
      exact .inl ⟨e, by rw [← e]; exact nmE_flat _⟩
    · simp -dsimp -implicitDefEqProofs (disch := omega) [go_sem, -List.getD_eq_getElem?_getD, ite_yes, hlt]
      have e := usesEnd hk' hk hlt
      have el : k - 1 = (uses l).length := by rw [← e, usesTo_length]
      rw [e, el]
      refine fin_list [some 0] rfl ?_ (by simp -dsimp -implicitDefEqProofs (disch := omega) [go_sem, -List.getD_eq_getElem?_getD, ite_yes, ht])
      simp -dsimp -implicitDefEqProofs (disch := omega) [go_sem, -List.getD_eq_getElem?_getD, ite_yes]
      exact .inl ⟨rfl, nmE_flat _⟩
theorem uses_len {l : List Rd} (h : l.length ≤ 1048577) : (uses l).length ≤ 1048577 := by unfold uses; rw [usesTo_length]; omega
end Go.Proofs.Ytfpikkhbkmchgaa
