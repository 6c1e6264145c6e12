/- FinishTimes: both sides, and the law. -/
import Derived.Test.YthajahknincjjaaAssign
namespace Go.Proofs.Ythajahknincjjaa
open Go.Am
set_option linter.unusedVariables false
set_option linter.unusedSimpArgs false
set_option maxRecDepth 100000
set_option maxHeartbeats 1000000

def finTo (l : List Tk) (crews : Int) (a : List Int) (k : Nat) : List Int := (List.range k).map fun i => (loadTo l crews a (i + 1)).getD (a.getD i 0).toNat 0
theorem finTo_length (l : List Tk) (crews : Int) (a : List Int) (k : Nat) : (finTo l crews a k).length = k := by simp [finTo]
theorem finTo_next (l : List Tk) (crews : Int) (a : List Int) (k : Nat) : finTo l crews a (k + 1) = finTo l crews a k ++ [(loadTo l crews a (k + 1)).getD (a.getD k 0).toNat 0] := by
  unfold finTo
  rw [List.range_succ, List.map_append]
  rfl
theorem iFin_bad (l : List Tk) (crews : Int) (a : List Int) (hl : l.length ≤ 1048577) (ha : a.length ≤ 1048577) (hg : asgOk l crews a = false) (c c2 : Nat) (H : Heap) (t u : Nat) (hS : Sl tkE H t l) (hU : Sl nmE H u a) :
    AFunC Try.prog 17 [.slice (some ⟨t, 0, none⟩) l.length c, .int .i64 crews, .slice (some ⟨u, 0, none⟩) a.length c2] H (.tuple #[.slice none 0 0, .bool false]) H := by
  refine AFunC.of_body Try.func17 (by kernel_rfl) rfl (by kernel_rfl) (by simp [Try.ntmps17]) ?_
  have ht := hS.lt
  have hu := hU.lt
  simp -dsimp -implicitDefEqProofs (disch := omega) [go_sem, -List.getD_eq_getElem?_getD, ite_yes]
  refine ACall.of (isAssignment_A l crews a hl ha c c2 _ t u hS hU) ?_
  simp -dsimp -implicitDefEqProofs (disch := omega) [go_sem, -List.getD_eq_getElem?_getD, ite_yes, hg]
  exact fin_flat0 rfl rfl
theorem sFin_bad (l : List Tk) (crews : Int) (a : List Int) (hl : l.length ≤ 1048577) (ha : a.length ≤ 1048577) (hg : asgOk l crews a = false) (c c2 : Nat) (H : Heap) (t u : Nat) (hS : Sl tkE H t l) (hU : Sl nmE H u a) :
    AFunC Try.prog 18 [.slice (some ⟨t, 0, none⟩) l.length c, .int .i64 crews, .slice (some ⟨u, 0, none⟩) a.length c2] H (.tuple #[.slice (some ⟨H.length, 0, none⟩) 0 0, .bool false]) (H ++ [some ⟨[], true, 3, 1⟩]) := by
  refine AFunC.of_body Try.func18 (by kernel_rfl) rfl (by kernel_rfl) (by simp [Try.ntmps18]) ?_
  have ht := hS.lt
  have hu := hU.lt
  simp -dsimp -implicitDefEqProofs (disch := omega) [go_sem, -List.getD_eq_getElem?_getD, ite_yes]
  refine ACall.of (l22Assignment_A l crews a hl ha c c2 _ t u hS.app hU.app) ?_
  simp -dsimp -implicitDefEqProofs (disch := omega) [go_sem, -List.getD_eq_getElem?_getD, ite_yes, hg]
  refine fin_list [some 0] rfl ?_ (by simp -dsimp -implicitDefEqProofs (disch := omega) [go_sem, -List.getD_eq_getElem?_getD, ite_yes])
  simp -dsimp -implicitDefEqProofs (disch := omega) [go_sem, -List.getD_eq_getElem?_getD, ite_yes]
  exact .inl ⟨rfl, rfl⟩
theorem iFin_good (l : List Tk) (crews : Int) (a : List Int) (hl : l.length ≤ 1048577) (ha : a.length ≤ 1048577) (hg : asgOk l crews a = true) (c c2 : Nat) (H : Heap) (t u : Nat) (hS : Sl tkE H t l) (hU : Sl nmE H u a) :
    AFunC Try.prog 17 [.slice (some ⟨t, 0, none⟩) l.length c, .int .i64 crews, .slice (some ⟨u, 0, none⟩) a.length c2] H (.tuple #[.slice (some ⟨H.length, 0, none⟩) (finTo l crews a a.length).length (finTo l crews a a.length).length, .bool true]) (H ++ [some ⟨(finTo l crews a a.length).flatMap nmE, true, 3, 1⟩]) := by
  rw [finTo_length]
  refine AFunC.of_body Try.func17 (by kernel_rfl) rfl (by kernel_rfl) (by simp [Try.ntmps17]) ?_
  have ht := hS.lt
  have hu := hU.lt
  have h := AsgAt.of hg
  have h1 := h.f_crews
  have h12 := (goodT_at h.f_good).1
  have hal := h.f_len
  have cs := fun k hk => hU.one (g := fun n => Value.int .i64 n) 0 k hk
  have ct := fun k hk => hS.cell (s := 3) (fun _ => rfl) (0, 0, 0) k 2 hk (by omega)
  simp only [tkE] at ct
  have ll := loadTo_length l crews a
  simp -dsimp -implicitDefEqProofs (disch := omega) [go_sem, -List.getD_eq_getElem?_getD, ite_yes]
  refine ACall.of (isAssignment_A l crews a hl ha c c2 _ t u hS hU) ?_
  simp -dsimp -implicitDefEqProofs (disch := omega) [go_sem, -List.getD_eq_getElem?_getD, ite_yes, hg]
  refine ⟨by omega, ?_⟩
  refine ALoop.intro (ι := Nat) (fun k => k ≤ a.length) (fun k => [(0, .slice (some ⟨t, 0, none⟩) l.length c), (8, .slice (some ⟨H.length, 0, none⟩) crews.toNat crews.toNat), (9, .slice (some ⟨H.length + 1, 0, none⟩) k k), (20, .slice (some ⟨u, 0, none⟩) a.length c2), (21, .int .i64 a.length), (22, .int .i64 k)]) (fun k => H ++ [some ⟨(loadTo l crews a k).flatMap nmE, true, 3, 1⟩, some ⟨(finTo l crews a k).flatMap nmE, true, 3, 1⟩]) (fun k => a.length - k) 0 (by omega) ?_ ?_
  · refine weakS_mk [some 0, some 1] rfl ?_ (by simp -dsimp -implicitDefEqProofs (disch := omega) [go_sem, -List.getD_eq_getElem?_getD, ite_yes, ht, hu])
    simp -dsimp -implicitDefEqProofs (disch := omega) [go_sem, -List.getD_eq_getElem?_getD, ite_yes]
    exact ⟨.inl ⟨(rep_zero _).symm, by simp [flat]⟩, .inl ⟨by simp [finTo], rfl⟩⟩
  · intro k hk
    by_cases hlt : k < a.length
    · have hin := h.f_in k hlt
      have hlt2 : k < l.length := by omega
      have ct' := ct k (by omega)
      have cs' := cs k hlt
      have lb := loadTo_bound h k (by omega) (a.getD k 0).toNat
      have g := (goodT_at h.f_good).2 k (by omega)
      obtain ⟨q, hq⟩ : ∃ q : Nat, a.getD k 0 = (q : Int) := ⟨(a.getD k 0).toNat, by omega⟩
      have hql : q < (loadTo l crews a k).length := by rw [ll]; omega
      have e : loadTo l crews a (k + 1) = (loadTo l crews a k).set q ((loadTo l crews a k).getD q 0 + (l.getD k (0, 0, 0)).2.2) := by
        simp only [loadTo, hq, Int.toNat_natCast]
      have e2 : finTo l crews a (k + 1) = finTo l crews a k ++ [(loadTo l crews a k).getD q 0 + (l.getD k (0, 0, 0)).2.2] := by
        rw [finTo_next, e, hq, Int.toNat_natCast, getD_set_of, if_pos ⟨rfl, hql⟩]
      have e3 : (finTo l crews a (k + 1)).flatMap nmE = (finTo l crews a k).flatMap nmE ++ [.int .i64 ((loadTo l crews a k).getD q 0 + (l.getD k (0, 0, 0)).2.2)] := by
        rw [e2, List.flatMap_append]; simp [nmE]
      rw [hq] at cs' lb
      rw [Int.toNat_natCast] at lb
      have c1 := nm_cell (loadTo l crews a k) hql
      have c2 := nm_set (loadTo l crews a k) ((loadTo l crews a k).getD q 0 + (l.getD k (0, 0, 0)).2.2) hql
      have c3 := nm_cell ((loadTo l crews a k).set q ((loadTo l crews a k).getD q 0 + (l.getD k (0, 0, 0)).2.2)) (q := q) (by rw [List.length_set]; exact hql)
      rw [← c2, getD_set_of, if_pos ⟨rfl, hql⟩] at c3
      have hfl : ((loadTo l crews a k).flatMap nmE).length = crews.toNat := by rw [nmE_length, ll]; omega
      have hof : ((finTo l crews a k).flatMap nmE).length = k := by rw [nmE_length, finTo_length]; omega
      have hqc : q < crews.toNat := by rw [← ll k]; exact hql
      have hqi : (q : Int) < crews := by omega
      have hqd : q + 1 ≤ crews.toNat := by omega
      have hkl : k < l.length := by omega
      simp -dsimp -implicitDefEqProofs (disch := omega) [go_sem, -List.getD_eq_getElem?_getD, ite_yes, hlt, hlt2, ht, hu, cs']
      refine ADraw.any H (by kernel_rfl) (by first | exact SubH.refl | exact SubH.app | exact SubH.both (by simp [subL])) ?_
      refine AAny.takes (fuel := 4) (by kernel_rfl) (by kernel_rfl) [0, 1, 2, 4, 5, 6, 7, 8] (by kernel_rfl) (by kernel_rfl) ?_
      simp -dsimp -implicitDefEqProofs (disch := omega) [go_sem, -List.getD_eq_getElem?_getD, ite_yes, ht, hu, ct', hfl, c1, hqc, hqi, hqd, hkl]
      refine AAny.one 3 3 (by kernel_rfl) (by kernel_rfl) (by kernel_rfl) ?_
      simp -dsimp -implicitDefEqProofs (disch := omega) [go_sem, -List.getD_eq_getElem?_getD, ite_yes, ht, hu, ct', hfl, c1, hqc, hqi, hqd, hkl]
      first | refine AAt.of (by first | exact SubH.refl | exact SubH.app | exact SubH.both (by simp [subL])) ?_ | (refine ⟨?_, AAt.of (by first | exact SubH.refl | exact SubH.app | exact SubH.both (by simp [subL])) ?_⟩; · omega)
      refine AAny.takes (fuel := 1) (by kernel_rfl) (by kernel_rfl) [9, 10] (by kernel_rfl) (by kernel_rfl) ?_
      simp -dsimp -implicitDefEqProofs (disch := omega) [go_sem, -List.getD_eq_getElem?_getD, ite_yes, ht, hu, ct', hfl, c1, hqc, hqi, hqd, hkl]
      refine AAny.one 0 11 (by kernel_rfl) (by kernel_rfl) (by kernel_rfl) ?_
      simp -dsimp -implicitDefEqProofs (disch := omega) [go_sem, -List.getD_eq_getElem?_getD, ite_yes, ht, hu, ct', hfl, c1, hqc, hqi, hqd, hkl]
      first | refine AAt.of (by first | exact SubH.refl | exact SubH.app | exact SubH.both (by simp [subL])) ?_ | (refine ⟨?_, AAt.of (by first | exact SubH.refl | exact SubH.app | exact SubH.both (by simp [subL])) ?_⟩; · omega)
      refine AAny.done (by kernel_rfl) ?_
      simp -dsimp -implicitDefEqProofs (disch := omega) [go_sem, -List.getD_eq_getElem?_getD, ite_yes, ht, hu, ct', hfl, c1, hqc, hqi, hqd, hkl]
      simp -dsimp -implicitDefEqProofs (disch := omega) [go_sem, -List.getD_eq_getElem?_getD, ite_yes, c3, hfl, hof, List.length_set, hqc, hqi, hqd]
      refine ⟨by omega, LoopEnd.of (k + 1) (by omega) (by omega) (weakS_mk [some 0, some 3] rfl ?_ (by simp -dsimp -implicitDefEqProofs (disch := omega) [go_sem, -List.getD_eq_getElem?_getD, ite_yes, ht, hu]))⟩
      simp -dsimp -implicitDefEqProofs (disch := omega) [go_sem, -List.getD_eq_getElem?_getD, ite_yes]
      exact ⟨.inl ⟨by rw [e]; exact c2.symm, (congrArg (fun x => List.all x flat) c2).trans (nmE_flat _)⟩, .inl ⟨e3, by rw [← e3]; exact nmE_flat _⟩⟩
    · have hk' : k = a.length := by omega
      have hlt2 : ¬ k < l.length := by omega
      simp -dsimp -implicitDefEqProofs (disch := omega) [go_sem, -List.getD_eq_getElem?_getD, ite_yes, hlt, hlt2]
      subst hk'
      refine fin_list [some 1] rfl ?_ (by simp -dsimp -implicitDefEqProofs (disch := omega) [go_sem, -List.getD_eq_getElem?_getD, ite_yes])
      simp -dsimp -implicitDefEqProofs (disch := omega) [go_sem, -List.getD_eq_getElem?_getD, ite_yes]
      exact .inl ⟨rfl, nmE_flat _⟩
theorem sFin_good (l : List Tk) (crews : Int) (a : List Int) (hl : l.length ≤ 1048577) (ha : a.length ≤ 1048577) (hg : asgOk l crews a = true) (c c2 : Nat) (H : Heap) (t u : Nat) (hS : Sl tkE H t l) (hU : Sl nmE H u a) :
    AFunC Try.prog 18 [.slice (some ⟨t, 0, none⟩) l.length c, .int .i64 crews, .slice (some ⟨u, 0, none⟩) a.length c2] H (.tuple #[.slice (some ⟨H.length, 0, none⟩) (finTo l crews a a.length).length (finTo l crews a a.length).length, .bool true]) (H ++ [some ⟨(finTo l crews a a.length).flatMap nmE, true, 3, 1⟩]) := by
  rw [finTo_length]
  refine AFunC.of_body Try.func18 (by kernel_rfl) rfl (by kernel_rfl) (by simp [Try.ntmps18]) ?_
  have ht := hS.lt
  have hu := hU.lt
  have h := AsgAt.of hg
  have h1 := h.f_crews
  have h12 := (goodT_at h.f_good).1
  have hal := h.f_len
  have cs := fun k hk => hU.one (g := fun n => Value.int .i64 n) 0 k hk
  have ct := fun k hk => hS.cell (s := 3) (fun _ => rfl) (0, 0, 0) k 2 hk (by omega)
  simp only [tkE] at ct
  have ll := loadTo_length l crews a
  simp -dsimp -implicitDefEqProofs (disch := omega) [go_sem, -List.getD_eq_getElem?_getD, ite_yes]
  refine ACall.of (l22Assignment_A l crews a hl ha c c2 _ t u hS.app hU.app) ?_
  simp -dsimp -implicitDefEqProofs (disch := omega) [go_sem, -List.getD_eq_getElem?_getD, ite_yes, hg]
  refine ⟨by omega, ?_⟩
  refine ALoop.intro (ι := Nat) (fun k => k ≤ a.length) (fun k => [(0, .slice (some ⟨t, 0, none⟩) l.length c), (2, .slice (some ⟨u, 0, none⟩) a.length c2), (8, .slice (some ⟨H.length, 0, none⟩) k k), (9, .slice (some ⟨H.length + 1, 0, none⟩) crews.toNat crews.toNat), (10, .int .i64 k)]) (fun k => H ++ [some ⟨(finTo l crews a k).flatMap nmE, true, 3, 1⟩, some ⟨(loadTo l crews a k).flatMap nmE, true, 3, 1⟩]) (fun k => a.length - k) 0 (by omega) ?_ ?_
  · refine weakS_mk [some 0, some 1] rfl ?_ (by simp -dsimp -implicitDefEqProofs (disch := omega) [go_sem, -List.getD_eq_getElem?_getD, ite_yes, ht, hu])
    simp -dsimp -implicitDefEqProofs (disch := omega) [go_sem, -List.getD_eq_getElem?_getD, ite_yes]
    exact ⟨.inl ⟨by simp [finTo], rfl⟩, .inl ⟨(rep_zero _).symm, by simp [flat]⟩⟩
  · intro k hk
    by_cases hlt : k < a.length
    · have hin := h.f_in k hlt
      have hlt2 : k < l.length := by omega
      have ct' := ct k (by omega)
      have cs' := cs k hlt
      have lb := loadTo_bound h k (by omega) (a.getD k 0).toNat
      have g := (goodT_at h.f_good).2 k (by omega)
      obtain ⟨q, hq⟩ : ∃ q : Nat, a.getD k 0 = (q : Int) := ⟨(a.getD k 0).toNat, by omega⟩
      have hql : q < (loadTo l crews a k).length := by rw [ll]; omega
      have e : loadTo l crews a (k + 1) = (loadTo l crews a k).set q ((loadTo l crews a k).getD q 0 + (l.getD k (0, 0, 0)).2.2) := by
        simp only [loadTo, hq, Int.toNat_natCast]
      have e2 : finTo l crews a (k + 1) = finTo l crews a k ++ [(loadTo l crews a k).getD q 0 + (l.getD k (0, 0, 0)).2.2] := by
        rw [finTo_next, e, hq, Int.toNat_natCast, getD_set_of, if_pos ⟨rfl, hql⟩]
      have e3 : (finTo l crews a (k + 1)).flatMap nmE = (finTo l crews a k).flatMap nmE ++ [.int .i64 ((loadTo l crews a k).getD q 0 + (l.getD k (0, 0, 0)).2.2)] := by
        rw [e2, List.flatMap_append]; simp [nmE]
      rw [hq] at cs' lb
      rw [Int.toNat_natCast] at lb
      have c1 := nm_cell (loadTo l crews a k) hql
      have c2 := nm_set (loadTo l crews a k) ((loadTo l crews a k).getD q 0 + (l.getD k (0, 0, 0)).2.2) hql
      have c3 := nm_cell ((loadTo l crews a k).set q ((loadTo l crews a k).getD q 0 + (l.getD k (0, 0, 0)).2.2)) (q := q) (by rw [List.length_set]; exact hql)
      rw [← c2, getD_set_of, if_pos ⟨rfl, hql⟩] at c3
      have hfl : ((loadTo l crews a k).flatMap nmE).length = crews.toNat := by rw [nmE_length, ll]; omega
      have hof : ((finTo l crews a k).flatMap nmE).length = k := by rw [nmE_length, finTo_length]; omega
      have hqc : q < crews.toNat := by rw [← ll k]; exact hql
      have hqi : (q : Int) < crews := by omega
      have hqd : q + 1 ≤ crews.toNat := by omega
      have hkl : k < l.length := by omega
      simp -dsimp -implicitDefEqProofs (disch := omega) [go_sem, -List.getD_eq_getElem?_getD, ite_yes, hlt, hlt2, ht, hu, cs']
      refine ADraw.any H (by kernel_rfl) (by first | exact SubH.refl | exact SubH.app | exact SubH.both (by simp [subL])) ?_
      refine AAny.takes (fuel := 4) (by kernel_rfl) (by kernel_rfl) [0, 1, 2, 3, 4, 6, 7, 8, 9, 10] (by kernel_rfl) (by kernel_rfl) ?_
      simp -dsimp -implicitDefEqProofs (disch := omega) [go_sem, -List.getD_eq_getElem?_getD, ite_yes, ht, hu, ct', hfl, c1, hqc, hqi, hqd, hkl]
      refine AAny.one 3 5 (by kernel_rfl) (by kernel_rfl) (by kernel_rfl) ?_
      simp -dsimp -implicitDefEqProofs (disch := omega) [go_sem, -List.getD_eq_getElem?_getD, ite_yes, ht, hu, ct', hfl, c1, hqc, hqi, hqd, hkl]
      first | refine AAt.of (by first | exact SubH.refl | exact SubH.app | exact SubH.both (by simp [subL])) ?_ | (refine ⟨?_, AAt.of (by first | exact SubH.refl | exact SubH.app | exact SubH.both (by simp [subL])) ?_⟩; · omega)
      refine AAny.takes (fuel := 1) (by kernel_rfl) (by kernel_rfl) [11, 12] (by kernel_rfl) (by kernel_rfl) ?_
      simp -dsimp -implicitDefEqProofs (disch := omega) [go_sem, -List.getD_eq_getElem?_getD, ite_yes, ht, hu, ct', hfl, c1, hqc, hqi, hqd, hkl]
      refine AAny.one 0 13 (by kernel_rfl) (by kernel_rfl) (by kernel_rfl) ?_
      simp -dsimp -implicitDefEqProofs (disch := omega) [go_sem, -List.getD_eq_getElem?_getD, ite_yes, ht, hu, ct', hfl, c1, hqc, hqi, hqd, hkl]
      first | refine AAt.of (by first | exact SubH.refl | exact SubH.app | exact SubH.both (by simp [subL])) ?_ | (refine ⟨?_, AAt.of (by first | exact SubH.refl | exact SubH.app | exact SubH.both (by simp [subL])) ?_⟩; · omega)
      refine AAny.done (by kernel_rfl) ?_
      simp -dsimp -implicitDefEqProofs (disch := omega) [go_sem, -List.getD_eq_getElem?_getD, ite_yes, ht, hu, ct', hfl, c1, hqc, hqi, hqd, hkl]
      simp -dsimp -implicitDefEqProofs (disch := omega) [go_sem, -List.getD_eq_getElem?_getD, ite_yes, c3, hfl, hof, List.length_set, hqc, hqi, hqd]
      refine ⟨by omega, LoopEnd.of (k + 1) (by omega) (by omega) (weakS_mk [some 3, some 1] rfl ?_ (by simp -dsimp -implicitDefEqProofs (disch := omega) [go_sem, -List.getD_eq_getElem?_getD, ite_yes, ht, hu]))⟩
      simp -dsimp -implicitDefEqProofs (disch := omega) [go_sem, -List.getD_eq_getElem?_getD, ite_yes]
      exact ⟨.inl ⟨e3, by rw [← e3]; exact nmE_flat _⟩, .inl ⟨by rw [e]; exact c2.symm, (congrArg (fun x => List.all x flat) c2).trans (nmE_flat _)⟩⟩
    · have hk' : k = a.length := by omega
      have hlt2 : ¬ k < l.length := by omega
      simp -dsimp -implicitDefEqProofs (disch := omega) [go_sem, -List.getD_eq_getElem?_getD, ite_yes, hlt, hlt2]
      subst hk'
      refine fin_list [some 0] rfl ?_ (by simp -dsimp -implicitDefEqProofs (disch := omega) [go_sem, -List.getD_eq_getElem?_getD, ite_yes])
      simp -dsimp -implicitDefEqProofs (disch := omega) [go_sem, -List.getD_eq_getElem?_getD, ite_yes]
      exact .inl ⟨rfl, nmE_flat _⟩
end Go.Proofs.Ythajahknincjjaa
