/- Leak6, LawR, FnLeakLosses, Own, OpenBy, in one text. -/
import Derived.Test.YteojpgmclplggaaLlM4
import Derived.Test.YteojpgmclplggaaLlM1
import Derived.Test.YteojpgmclplggaaLlM2
import Derived.Test.YteojpgmclplggaaFacts
import Derived.Test.YteojpgmclplggaaAm12
import Derived.Test.YteojpgmclplggaaLlM3
/- RankAreas: the reference's side. -/
namespace Go.Proofs.Yteojpgmclplggaa
open Go.Am
set_option linter.unusedVariables false
set_option linter.unusedSimpArgs false
set_option maxRecDepth 100000
set_option maxHeartbeats 8000000
theorem ak_take (L : List Ak) (k : Nat) : List.take (k * 3) (L.flatMap akE) = (L.take k).flatMap akE := by
  induction L generalizing k with
  | nil => simp
  | cons x L ih =>
    cases k with
    | zero => simp
    | succ k =>
      rw [List.flatMap_cons, List.take_succ_cons, List.flatMap_cons, show (k + 1) * 3 = (akE x).length + k * 3 by simp [akE]; omega, List.take_length_add_append, ih]
theorem ak_drop (L : List Ak) (k : Nat) : List.drop (k * 3) (L.flatMap akE) = (L.drop k).flatMap akE := by
  induction L generalizing k with
  | nil => simp
  | cons x L ih =>
    cases k with
    | zero => simp
    | succ k =>
      rw [List.flatMap_cons, List.drop_succ_cons, show (k + 1) * 3 = (akE x).length + k * 3 by simp [akE]; omega, List.drop_length_add_append, ih]
theorem sRank_bad (R : List Ak) (hl : R.length ≤ 1048577) (hg : rankB R = false) (c : Nat) (H : Heap) (t : Nat) (hS : AksAt H t R) :
    AFunC Try.prog 16 [.slice (some ⟨t, 0, none⟩) R.length c] H (.tuple #[.slice (some ⟨H.length, 0, none⟩) 0 0, .bool false]) (H ++ [some ⟨[], true, 3, 1⟩]) := by
  refine AFunC.of_body Try.func16 (by kernel_rfl) rfl (by kernel_rfl) (by simp [Try.ntmps16]) ?_
  have ht := hS.sp.lt
  simp -dsimp -implicitDefEqProofs (disch := omega) [go_sem, -List.getD_eq_getElem?_getD, ite_yes, ht]
  refine ACall.of (l17List_Ak R hl c _ t hS.app) ?_
  simp -dsimp -implicitDefEqProofs (disch := omega) [go_sem, -List.getD_eq_getElem?_getD, ite_yes, hg]
  refine fin_list [some 0] rfl ?_ (by simp -dsimp -implicitDefEqProofs (disch := omega) [go_sem, -List.getD_eq_getElem?_getD, ite_yes])
  simp -dsimp -implicitDefEqProofs (disch := omega) [go_sem, -List.getD_eq_getElem?_getD, ite_yes]
  exact .inl ⟨rfl, rfl⟩
theorem sRank_good (R : List Ak) (hg : rankB R = true) (c : Nat) (H : Heap) (t : Nat) (hS : AksAt H t R) :
    AFunC Try.prog 16 [.slice (some ⟨t, 0, none⟩) R.length c] H (.tuple #[.slice (some ⟨H.length, 0, none⟩) (rankN R).length 0, .bool true]) (H ++ [some ⟨(rankN R).flatMap nmE, true, 3, 1⟩]) := by
  refine AFunC.of_body Try.func16 (by kernel_rfl) rfl (by kernel_rfl) (by simp [Try.ntmps16]) ?_
  have ht := hS.sp.lt
  obtain ⟨hl8, hAr⟩ := rankB_at hg
  have cs := fun k hk => hS.sp.cells (s := 3) (fun _ => rfl) akD k hk
  simp only [akE] at cs
  have hA : ∀ r ∈ R, r.2.2.1 < H.length := fun r hr => (hS.ns r hr).1.lt
  simp -dsimp -implicitDefEqProofs (disch := omega) [go_sem, -List.getD_eq_getElem?_getD, ite_yes, ht]
  refine ACall.of (l17List_Ak R (by omega) c _ t hS.app) ?_
  simp -dsimp -implicitDefEqProofs (disch := omega) [go_sem, -List.getD_eq_getElem?_getD, ite_yes, hg, ht]
  refine ALoop.intro (ι := Nat) (fun i => i ≤ R.length) (fun i => [(0, .slice (some ⟨t, 0, none⟩) R.length c), (4, .slice (some ⟨H.length, 0, none⟩) 0 0), (5, .slice (some ⟨H.length + 1, 0, none⟩) i 0), (6, .int .i64 i)])
    (fun i => H ++ [some ⟨[], true, 3, 1⟩, some ⟨(ordK moreK R i).flatMap akE, true, 26, 3⟩]) (fun i => R.length - i) 0 (by omega) ?_ ?_
  · refine weakS_mk [some 0, some 1] rfl ?_ (by simp -dsimp -implicitDefEqProofs (disch := omega) [go_sem, -List.getD_eq_getElem?_getD, ite_yes, ht])
    simp -dsimp -implicitDefEqProofs (disch := omega) [go_sem, -List.getD_eq_getElem?_getD, ite_yes]
    exact ⟨.inl ⟨rfl, rfl⟩, .inl ⟨rfl, rfl⟩⟩
  intro i hi
  have hol := ordK_length moreK R i
  have hof : ((ordK moreK R i).flatMap akE).length = i * 3 := by rw [akE_length, hol]
  have hOm : ∀ r ∈ ordK moreK R i, r ∈ R := fun r hr => ordK_mem hi hr
  have hOA : ∀ r ∈ ordK moreK R i, r.2.2.1 < H.length := fun r hr => hA r (hOm r hr)
  by_cases hlt : i < R.length
  rotate_left
  · obtain rfl : i = R.length := by omega
    have hlti : ¬ (R.length : Int) < (R.length : Int) := by omega
    have eN : rankN R = idsTo (sortK moreK R) R.length := rfl
    have eS : sortK moreK R = ordK moreK R R.length := rfl
    rw [eN, eS]
    generalize ordK moreK R R.length = S at *
    simp -dsimp -implicitDefEqProofs (disch := omega) [go_sem, -List.getD_eq_getElem?_getD, ite_yes, hlti]
    refine ALoop.intro (ι := Nat) (fun k => k ≤ R.length) (fun k => [(4, .slice (some ⟨H.length, 0, none⟩) k 0), (5, .slice (some ⟨H.length + 1, 0, none⟩) R.length 0), (8, .int .i64 k)])
      (fun k => H ++ [some ⟨(idsTo S k).flatMap nmE, true, 3, 1⟩, some ⟨S.flatMap akE, true, 26, 3⟩]) (fun k => R.length - k) 0 (by omega) ?_ ?_
    · refine weakS_mk [some 0, some 1] rfl ?_ (by simp -dsimp -implicitDefEqProofs (disch := omega) [go_sem, -List.getD_eq_getElem?_getD, ite_yes, ht])
      simp -dsimp -implicitDefEqProofs (disch := omega) [go_sem, -List.getD_eq_getElem?_getD, ite_yes]
      exact ⟨.inl ⟨rfl, rfl⟩, wl_aks hOA⟩
    intro k hk
    have il := idsTo_length (R := S) (k := k) (by omega)
    have iff' : ((idsTo S k).flatMap nmE).length = k := by rw [nmE_length, il]; omega
    by_cases hlt : k < R.length
    · have hlti : (k : Int) < (R.length : Int) := by omega
      have fc := flatMap_cells akE 3 (fun _ => rfl) akD S k (by omega)
      have e := idsTo_next (R := S) (k := k) (by omega)
      have hk3 : k * 3 + 1 ≤ R.length * 3 := by omega
      have f1 : List.take 1 (List.drop (k * 3) (S.flatMap akE)) = [.int .i64 (S.getD k akD).1] := by
        have h2 : List.take 1 (List.take 3 (List.drop (k * 3) (S.flatMap akE))) = [.int .i64 (S.getD k akD).1] := by rw [fc]; rfl
        rwa [List.take_take] at h2
      generalize S.getD k akD = r at *
      simp -dsimp -implicitDefEqProofs (disch := omega) [go_sem, -List.getD_eq_getElem?_getD, ite_yes, hlt, hlti, f1, hof, hk3, hol, iff']
      refine ⟨by omega, LoopEnd.of (k + 1) (by omega) (by omega) (weakS_mk [some 3, some 1] rfl ?_ (by simp -dsimp -implicitDefEqProofs (disch := omega) [go_sem, -List.getD_eq_getElem?_getD, ite_yes, ht]))⟩
      simp -dsimp -implicitDefEqProofs (disch := omega) [go_sem, -List.getD_eq_getElem?_getD, ite_yes]
      exact ⟨.inl ⟨by rw [e, List.flatMap_append]; rfl, by rw [show List.flatMap nmE (idsTo S k) ++ [Value.int IntKind.i64 r.1] = List.flatMap nmE (idsTo S (k + 1)) by rw [e, List.flatMap_append]; rfl]; exact nmE_flat _⟩, wl_aks hOA⟩
    · have hlti : ¬ (k : Int) < (R.length : Int) := by omega
      obtain rfl : k = R.length := by omega
      simp -dsimp -implicitDefEqProofs (disch := omega) [go_sem, -List.getD_eq_getElem?_getD, ite_yes, hlti]
      refine fin_list [some 0] rfl ?_ (by simp -dsimp -implicitDefEqProofs (disch := omega) [go_sem, -List.getD_eq_getElem?_getD, ite_yes, il])
      simp -dsimp -implicitDefEqProofs (disch := omega) [go_sem, -List.getD_eq_getElem?_getD, ite_yes]
      exact .inl ⟨rfl, nmE_flat _⟩
  have hlti : (i : Int) < (R.length : Int) := by omega
  have eO : ordK moreK R (i + 1) = (ordK moreK R i).take (posK moreK (ordK moreK R i) (R.getD i akD) i) ++ R.getD i akD :: (ordK moreK R i).drop (posK moreK (ordK moreK R i) (R.getD i akD) i) := by
    rw [ordK, insK, hol]
  have x1 := cs i hlt
  have hxm := akmem hlt
  obtain ⟨O', hO'⟩ : ∃ O', ordK moreK R (i + 1) = O' := ⟨_, rfl⟩
  have hol' := ordK_length moreK R (i + 1)
  have hOA' : ∀ r ∈ ordK moreK R (i + 1), r.2.2.1 < H.length := fun r hr => hA r (ordK_mem hlt hr)
  rw [hO'] at eO hol' hOA'
  generalize ordK moreK R i = O at *
  generalize R.getD i akD = x at *
  have hxA := hA x hxm
  simp -dsimp -implicitDefEqProofs (disch := omega) [go_sem, -List.getD_eq_getElem?_getD, ite_yes, hlt, hlti]
  refine ALoop.intro (ι := Nat) (fun k => k ≤ i ∧ posK moreK O x i = posK moreK O x k) (fun k => [(0, .slice (some ⟨t, 0, none⟩) R.length c), (4, .slice (some ⟨H.length, 0, none⟩) 0 0), (5, .slice (some ⟨H.length + 1, 0, none⟩) i 0), (6, .int .i64 i), (7, .int .i64 k)])
    (fun _ => H ++ [some ⟨[], true, 3, 1⟩, some ⟨O.flatMap akE, true, 26, 3⟩]) (fun k => k) i ⟨Nat.le_refl _, rfl⟩ ?_ ?_
  · refine weakS_mk [some 0, some 1] rfl ?_ (by simp -dsimp -implicitDefEqProofs (disch := omega) [go_sem, -List.getD_eq_getElem?_getD, ite_yes, ht])
    simp -dsimp -implicitDefEqProofs (disch := omega) [go_sem, -List.getD_eq_getElem?_getD, ite_yes]
    exact ⟨.inl ⟨rfl, rfl⟩, wl_aks hOA⟩
  rintro k ⟨hk, hpos⟩
  cases k with
  | zero =>
    have hp0 : posK moreK O x i = 0 := hpos
    rw [hp0] at eO
    have n1 := ak_take O 0
    have n2 := ak_drop O 0
    have n4 : (O.flatMap akE).length = i * 3 := hof
    have n5 : List.take (i * 3) (O.flatMap akE) = O.flatMap akE := List.take_of_length_le (by omega)
    have e4 : 1 + i = i + 1 := by omega
    have ef : O'.flatMap akE = akE x ++ O.flatMap akE := by rw [eO]; simp
    simp only [akE, List.cons_append, List.nil_append] at ef
    simp -dsimp -implicitDefEqProofs (disch := omega) [go_sem, -List.getD_eq_getElem?_getD, ite_yes, ht]
    refine ADraw.quiet (by kernel_rfl) (by kernel_rfl) (by kernel_rfl) ?_
    simp -dsimp -implicitDefEqProofs (disch := omega) [go_sem, -List.getD_eq_getElem?_getD, ite_yes, ht, hlt, hlti, hof]
    refine ADraw.mid [(0, .slice (some ⟨t, 0, none⟩) R.length c), (4, .slice (some ⟨H.length, 0, none⟩) 0 0), (5, .slice (some ⟨H.length + 1, 0, none⟩) (i + 1) 0), (6, .int .i64 i)] (H ++ [some ⟨[], true, 3, 1⟩, some ⟨O'.flatMap akE, true, 26, 3⟩]) ?_ ?_
    · skip
      refine ADraw.any (H ++ [some ⟨[], true, 3, 1⟩, some ⟨O.flatMap akE, true, 26, 3⟩]) (by kernel_rfl) (by first | exact SubH.refl | exact SubH.app | exact SubH.both (by simp [subL])) ?_
      refine AAny.takes (fuel := 7) (by kernel_rfl) (by kernel_rfl) [1, 2, 3, 5, 6, 7, 11, 12, 13] (by kernel_rfl) (by kernel_rfl) ?_
      simp -dsimp -implicitDefEqProofs (disch := omega) [go_sem, -List.getD_eq_getElem?_getD, ite_yes, ht, hlt, hlti, hof, x1, n4, n5]
      refine AAny.two 6 0 8 (by kernel_rfl) (by kernel_rfl) (by kernel_rfl) ?_ ?_
      · simp -dsimp -implicitDefEqProofs (disch := omega) [go_sem, -List.getD_eq_getElem?_getD, ite_yes, ht, hlt, hlti, hof, x1, n4, n5]
        first | refine AAt.of (by first | exact SubH.refl | exact SubH.app | exact SubH.both (by simp [subL])) ?_ | (refine ⟨?_, AAt.of (by first | exact SubH.refl | exact SubH.app | exact SubH.both (by simp [subL])) ?_⟩; · omega)
        refine AAny.two 5 4 8 (by kernel_rfl) (by kernel_rfl) (by kernel_rfl) ?_ ?_
        · simp -dsimp -implicitDefEqProofs (disch := omega) [go_sem, -List.getD_eq_getElem?_getD, ite_yes, ht, hlt, hlti, hof, x1, n4, n5]
          first | refine AAt.of (by first | exact SubH.refl | exact SubH.app | exact SubH.both (by simp [subL])) ?_ | (refine ⟨?_, AAt.of (by first | exact SubH.refl | exact SubH.app | exact SubH.both (by simp [subL])) ?_⟩; · omega)
          refine AAny.one 4 8 (by kernel_rfl) (by kernel_rfl) (by kernel_rfl) ?_
          simp -dsimp -implicitDefEqProofs (disch := omega) [go_sem, -List.getD_eq_getElem?_getD, ite_yes, ht, hlt, hlti, hof, x1, n4, n5]
          first | refine AAt.of (by first | exact SubH.refl | exact SubH.app | exact SubH.both (by simp [subL])) ?_ | (refine ⟨?_, AAt.of (by first | exact SubH.refl | exact SubH.app | exact SubH.both (by simp [subL])) ?_⟩; · omega)
          refine AAny.one 3 9 (by kernel_rfl) (by kernel_rfl) (by kernel_rfl) ?_
          simp -dsimp -implicitDefEqProofs (disch := omega) [go_sem, -List.getD_eq_getElem?_getD, ite_yes, ht, hlt, hlti, hof, x1, n4, n5]
          first | refine AAt.of (by first | exact SubH.refl | exact SubH.app | exact SubH.both (by simp [subL])) ?_ | (refine ⟨?_, AAt.of (by first | exact SubH.refl | exact SubH.app | exact SubH.both (by simp [subL])) ?_⟩; · omega)
          refine AAny.one 2 10 (by kernel_rfl) (by kernel_rfl) (by kernel_rfl) ?_
          simp -dsimp -implicitDefEqProofs (disch := omega) [go_sem, -List.getD_eq_getElem?_getD, ite_yes, ht, hlt, hlti, hof, x1, n4, n5]
          first | refine AAt.of (by first | exact SubH.refl | exact SubH.app | exact SubH.both (by simp [subL])) ?_ | (refine ⟨?_, AAt.of (by first | exact SubH.refl | exact SubH.app | exact SubH.both (by simp [subL])) ?_⟩; · omega)
          refine AAny.one 1 14 (by kernel_rfl) (by kernel_rfl) (by kernel_rfl) ?_
          simp -dsimp -implicitDefEqProofs (disch := omega) [go_sem, -List.getD_eq_getElem?_getD, ite_yes, ht, hlt, hlti, hof, x1, n4, n5]
          first | refine AAt.of (by first | exact SubH.refl | exact SubH.app | exact SubH.both (by simp [subL])) ?_ | (refine ⟨?_, AAt.of (by first | exact SubH.refl | exact SubH.app | exact SubH.both (by simp [subL])) ?_⟩; · omega)
          refine AAny.takes (fuel := 0) (by kernel_rfl) (by kernel_rfl) [15] (by kernel_rfl) (by kernel_rfl) ?_
          simp -dsimp -implicitDefEqProofs (disch := omega) [go_sem, -List.getD_eq_getElem?_getD, ite_yes, ht, hlt, hlti, hof, x1, n4, n5]
          refine AAny.done (by kernel_rfl) ?_
          simp -dsimp -implicitDefEqProofs (disch := omega) [go_sem, -List.getD_eq_getElem?_getD, ite_yes, ht, hlt, hlti, hof, x1, n4, n5]
          try (refine ⟨weakS_mk [some 0, some 5] rfl ?_ (by simp -dsimp -implicitDefEqProofs (disch := omega) [go_sem, -List.getD_eq_getElem?_getD, ite_yes, ht, e4])⟩; simp -dsimp -implicitDefEqProofs (disch := omega) [go_sem, -List.getD_eq_getElem?_getD, ite_yes, ht, hlt, hlti, hof, x1, n4, n5]; rw [← ef]; exact ⟨.inl ⟨rfl, rfl⟩, wl_aks hOA'⟩)
          try (refine ⟨weakS_mk [some 0, some 6] rfl ?_ (by simp -dsimp -implicitDefEqProofs (disch := omega) [go_sem, -List.getD_eq_getElem?_getD, ite_yes, ht, e4])⟩; simp -dsimp -implicitDefEqProofs (disch := omega) [go_sem, -List.getD_eq_getElem?_getD, ite_yes, ht, hlt, hlti, hof, x1, n4, n5]; rw [← ef]; exact ⟨.inl ⟨rfl, rfl⟩, wl_aks hOA'⟩)
        · simp -dsimp -implicitDefEqProofs (disch := omega) [go_sem, -List.getD_eq_getElem?_getD, ite_yes, ht, hlt, hlti, hof, x1, n4, n5]
          first | refine AAt.of (by first | exact SubH.refl | exact SubH.app | exact SubH.both (by simp [subL])) ?_ | (refine ⟨?_, AAt.of (by first | exact SubH.refl | exact SubH.app | exact SubH.both (by simp [subL])) ?_⟩; · omega)
          refine AAny.two 4 4 9 (by kernel_rfl) (by kernel_rfl) (by kernel_rfl) ?_ ?_
          · simp -dsimp -implicitDefEqProofs (disch := omega) [go_sem, -List.getD_eq_getElem?_getD, ite_yes, ht, hlt, hlti, hof, x1, n4, n5]
            first | refine AAt.of (by first | exact SubH.refl | exact SubH.app | exact SubH.both (by simp [subL])) ?_ | (refine ⟨?_, AAt.of (by first | exact SubH.refl | exact SubH.app | exact SubH.both (by simp [subL])) ?_⟩; · omega)
            refine AAny.one 3 9 (by kernel_rfl) (by kernel_rfl) (by kernel_rfl) ?_
            simp -dsimp -implicitDefEqProofs (disch := omega) [go_sem, -List.getD_eq_getElem?_getD, ite_yes, ht, hlt, hlti, hof, x1, n4, n5]
            first | refine AAt.of (by first | exact SubH.refl | exact SubH.app | exact SubH.both (by simp [subL])) ?_ | (refine ⟨?_, AAt.of (by first | exact SubH.refl | exact SubH.app | exact SubH.both (by simp [subL])) ?_⟩; · omega)
            refine AAny.one 2 10 (by kernel_rfl) (by kernel_rfl) (by kernel_rfl) ?_
            simp -dsimp -implicitDefEqProofs (disch := omega) [go_sem, -List.getD_eq_getElem?_getD, ite_yes, ht, hlt, hlti, hof, x1, n4, n5]
            first | refine AAt.of (by first | exact SubH.refl | exact SubH.app | exact SubH.both (by simp [subL])) ?_ | (refine ⟨?_, AAt.of (by first | exact SubH.refl | exact SubH.app | exact SubH.both (by simp [subL])) ?_⟩; · omega)
            refine AAny.one 1 14 (by kernel_rfl) (by kernel_rfl) (by kernel_rfl) ?_
            simp -dsimp -implicitDefEqProofs (disch := omega) [go_sem, -List.getD_eq_getElem?_getD, ite_yes, ht, hlt, hlti, hof, x1, n4, n5]
            first | refine AAt.of (by first | exact SubH.refl | exact SubH.app | exact SubH.both (by simp [subL])) ?_ | (refine ⟨?_, AAt.of (by first | exact SubH.refl | exact SubH.app | exact SubH.both (by simp [subL])) ?_⟩; · omega)
            refine AAny.takes (fuel := 0) (by kernel_rfl) (by kernel_rfl) [15] (by kernel_rfl) (by kernel_rfl) ?_
            simp -dsimp -implicitDefEqProofs (disch := omega) [go_sem, -List.getD_eq_getElem?_getD, ite_yes, ht, hlt, hlti, hof, x1, n4, n5]
            refine AAny.done (by kernel_rfl) ?_
            simp -dsimp -implicitDefEqProofs (disch := omega) [go_sem, -List.getD_eq_getElem?_getD, ite_yes, ht, hlt, hlti, hof, x1, n4, n5]
            try (refine ⟨weakS_mk [some 0, some 5] rfl ?_ (by simp -dsimp -implicitDefEqProofs (disch := omega) [go_sem, -List.getD_eq_getElem?_getD, ite_yes, ht, e4])⟩; simp -dsimp -implicitDefEqProofs (disch := omega) [go_sem, -List.getD_eq_getElem?_getD, ite_yes, ht, hlt, hlti, hof, x1, n4, n5]; rw [← ef]; exact ⟨.inl ⟨rfl, rfl⟩, wl_aks hOA'⟩)
            try (refine ⟨weakS_mk [some 0, some 6] rfl ?_ (by simp -dsimp -implicitDefEqProofs (disch := omega) [go_sem, -List.getD_eq_getElem?_getD, ite_yes, ht, e4])⟩; simp -dsimp -implicitDefEqProofs (disch := omega) [go_sem, -List.getD_eq_getElem?_getD, ite_yes, ht, hlt, hlti, hof, x1, n4, n5]; rw [← ef]; exact ⟨.inl ⟨rfl, rfl⟩, wl_aks hOA'⟩)
          · simp -dsimp -implicitDefEqProofs (disch := omega) [go_sem, -List.getD_eq_getElem?_getD, ite_yes, ht, hlt, hlti, hof, x1, n4, n5]
            first | refine AAt.of (by first | exact SubH.refl | exact SubH.app | exact SubH.both (by simp [subL])) ?_ | (refine ⟨?_, AAt.of (by first | exact SubH.refl | exact SubH.app | exact SubH.both (by simp [subL])) ?_⟩; · omega)
            refine AAny.one 3 4 (by kernel_rfl) (by kernel_rfl) (by kernel_rfl) ?_
            simp -dsimp -implicitDefEqProofs (disch := omega) [go_sem, -List.getD_eq_getElem?_getD, ite_yes, ht, hlt, hlti, hof, x1, n4, n5]
            first | refine AAt.of (by first | exact SubH.refl | exact SubH.app | exact SubH.both (by simp [subL])) ?_ | (refine ⟨?_, AAt.of (by first | exact SubH.refl | exact SubH.app | exact SubH.both (by simp [subL])) ?_⟩; · omega)
            refine AAny.one 2 10 (by kernel_rfl) (by kernel_rfl) (by kernel_rfl) ?_
            simp -dsimp -implicitDefEqProofs (disch := omega) [go_sem, -List.getD_eq_getElem?_getD, ite_yes, ht, hlt, hlti, hof, x1, n4, n5]
            first | refine AAt.of (by first | exact SubH.refl | exact SubH.app | exact SubH.both (by simp [subL])) ?_ | (refine ⟨?_, AAt.of (by first | exact SubH.refl | exact SubH.app | exact SubH.both (by simp [subL])) ?_⟩; · omega)
            refine AAny.one 1 14 (by kernel_rfl) (by kernel_rfl) (by kernel_rfl) ?_
            simp -dsimp -implicitDefEqProofs (disch := omega) [go_sem, -List.getD_eq_getElem?_getD, ite_yes, ht, hlt, hlti, hof, x1, n4, n5]
            first | refine AAt.of (by first | exact SubH.refl | exact SubH.app | exact SubH.both (by simp [subL])) ?_ | (refine ⟨?_, AAt.of (by first | exact SubH.refl | exact SubH.app | exact SubH.both (by simp [subL])) ?_⟩; · omega)
            refine AAny.takes (fuel := 0) (by kernel_rfl) (by kernel_rfl) [15] (by kernel_rfl) (by kernel_rfl) ?_
            simp -dsimp -implicitDefEqProofs (disch := omega) [go_sem, -List.getD_eq_getElem?_getD, ite_yes, ht, hlt, hlti, hof, x1, n4, n5]
            refine AAny.done (by kernel_rfl) ?_
            simp -dsimp -implicitDefEqProofs (disch := omega) [go_sem, -List.getD_eq_getElem?_getD, ite_yes, ht, hlt, hlti, hof, x1, n4, n5]
            try (refine ⟨weakS_mk [some 0, some 5] rfl ?_ (by simp -dsimp -implicitDefEqProofs (disch := omega) [go_sem, -List.getD_eq_getElem?_getD, ite_yes, ht, e4])⟩; simp -dsimp -implicitDefEqProofs (disch := omega) [go_sem, -List.getD_eq_getElem?_getD, ite_yes, ht, hlt, hlti, hof, x1, n4, n5]; rw [← ef]; exact ⟨.inl ⟨rfl, rfl⟩, wl_aks hOA'⟩)
            try (refine ⟨weakS_mk [some 0, some 6] rfl ?_ (by simp -dsimp -implicitDefEqProofs (disch := omega) [go_sem, -List.getD_eq_getElem?_getD, ite_yes, ht, e4])⟩; simp -dsimp -implicitDefEqProofs (disch := omega) [go_sem, -List.getD_eq_getElem?_getD, ite_yes, ht, hlt, hlti, hof, x1, n4, n5]; rw [← ef]; exact ⟨.inl ⟨rfl, rfl⟩, wl_aks hOA'⟩)
      · simp -dsimp -implicitDefEqProofs (disch := omega) [go_sem, -List.getD_eq_getElem?_getD, ite_yes, ht, hlt, hlti, hof, x1, n4, n5]
        first | refine AAt.of (by first | exact SubH.refl | exact SubH.app | exact SubH.both (by simp [subL])) ?_ | (refine ⟨?_, AAt.of (by first | exact SubH.refl | exact SubH.app | exact SubH.both (by simp [subL])) ?_⟩; · omega)
        refine AAny.two 5 0 9 (by kernel_rfl) (by kernel_rfl) (by kernel_rfl) ?_ ?_
        · simp -dsimp -implicitDefEqProofs (disch := omega) [go_sem, -List.getD_eq_getElem?_getD, ite_yes, ht, hlt, hlti, hof, x1, n4, n5]
          first | refine AAt.of (by first | exact SubH.refl | exact SubH.app | exact SubH.both (by simp [subL])) ?_ | (refine ⟨?_, AAt.of (by first | exact SubH.refl | exact SubH.app | exact SubH.both (by simp [subL])) ?_⟩; · omega)
          refine AAny.two 4 4 9 (by kernel_rfl) (by kernel_rfl) (by kernel_rfl) ?_ ?_
          · simp -dsimp -implicitDefEqProofs (disch := omega) [go_sem, -List.getD_eq_getElem?_getD, ite_yes, ht, hlt, hlti, hof, x1, n4, n5]
            first | refine AAt.of (by first | exact SubH.refl | exact SubH.app | exact SubH.both (by simp [subL])) ?_ | (refine ⟨?_, AAt.of (by first | exact SubH.refl | exact SubH.app | exact SubH.both (by simp [subL])) ?_⟩; · omega)
            refine AAny.one 3 9 (by kernel_rfl) (by kernel_rfl) (by kernel_rfl) ?_
            simp -dsimp -implicitDefEqProofs (disch := omega) [go_sem, -List.getD_eq_getElem?_getD, ite_yes, ht, hlt, hlti, hof, x1, n4, n5]
            first | refine AAt.of (by first | exact SubH.refl | exact SubH.app | exact SubH.both (by simp [subL])) ?_ | (refine ⟨?_, AAt.of (by first | exact SubH.refl | exact SubH.app | exact SubH.both (by simp [subL])) ?_⟩; · omega)
            refine AAny.one 2 10 (by kernel_rfl) (by kernel_rfl) (by kernel_rfl) ?_
            simp -dsimp -implicitDefEqProofs (disch := omega) [go_sem, -List.getD_eq_getElem?_getD, ite_yes, ht, hlt, hlti, hof, x1, n4, n5]
            first | refine AAt.of (by first | exact SubH.refl | exact SubH.app | exact SubH.both (by simp [subL])) ?_ | (refine ⟨?_, AAt.of (by first | exact SubH.refl | exact SubH.app | exact SubH.both (by simp [subL])) ?_⟩; · omega)
            refine AAny.one 1 14 (by kernel_rfl) (by kernel_rfl) (by kernel_rfl) ?_
            simp -dsimp -implicitDefEqProofs (disch := omega) [go_sem, -List.getD_eq_getElem?_getD, ite_yes, ht, hlt, hlti, hof, x1, n4, n5]
            first | refine AAt.of (by first | exact SubH.refl | exact SubH.app | exact SubH.both (by simp [subL])) ?_ | (refine ⟨?_, AAt.of (by first | exact SubH.refl | exact SubH.app | exact SubH.both (by simp [subL])) ?_⟩; · omega)
            refine AAny.takes (fuel := 0) (by kernel_rfl) (by kernel_rfl) [15] (by kernel_rfl) (by kernel_rfl) ?_
            simp -dsimp -implicitDefEqProofs (disch := omega) [go_sem, -List.getD_eq_getElem?_getD, ite_yes, ht, hlt, hlti, hof, x1, n4, n5]
            refine AAny.done (by kernel_rfl) ?_
            simp -dsimp -implicitDefEqProofs (disch := omega) [go_sem, -List.getD_eq_getElem?_getD, ite_yes, ht, hlt, hlti, hof, x1, n4, n5]
            try (refine ⟨weakS_mk [some 0, some 5] rfl ?_ (by simp -dsimp -implicitDefEqProofs (disch := omega) [go_sem, -List.getD_eq_getElem?_getD, ite_yes, ht, e4])⟩; simp -dsimp -implicitDefEqProofs (disch := omega) [go_sem, -List.getD_eq_getElem?_getD, ite_yes, ht, hlt, hlti, hof, x1, n4, n5]; rw [← ef]; exact ⟨.inl ⟨rfl, rfl⟩, wl_aks hOA'⟩)
            try (refine ⟨weakS_mk [some 0, some 6] rfl ?_ (by simp -dsimp -implicitDefEqProofs (disch := omega) [go_sem, -List.getD_eq_getElem?_getD, ite_yes, ht, e4])⟩; simp -dsimp -implicitDefEqProofs (disch := omega) [go_sem, -List.getD_eq_getElem?_getD, ite_yes, ht, hlt, hlti, hof, x1, n4, n5]; rw [← ef]; exact ⟨.inl ⟨rfl, rfl⟩, wl_aks hOA'⟩)
          · simp -dsimp -implicitDefEqProofs (disch := omega) [go_sem, -List.getD_eq_getElem?_getD, ite_yes, ht, hlt, hlti, hof, x1, n4, n5]
            first | refine AAt.of (by first | exact SubH.refl | exact SubH.app | exact SubH.both (by simp [subL])) ?_ | (refine ⟨?_, AAt.of (by first | exact SubH.refl | exact SubH.app | exact SubH.both (by simp [subL])) ?_⟩; · omega)
            refine AAny.one 3 4 (by kernel_rfl) (by kernel_rfl) (by kernel_rfl) ?_
            simp -dsimp -implicitDefEqProofs (disch := omega) [go_sem, -List.getD_eq_getElem?_getD, ite_yes, ht, hlt, hlti, hof, x1, n4, n5]
            first | refine AAt.of (by first | exact SubH.refl | exact SubH.app | exact SubH.both (by simp [subL])) ?_ | (refine ⟨?_, AAt.of (by first | exact SubH.refl | exact SubH.app | exact SubH.both (by simp [subL])) ?_⟩; · omega)
            refine AAny.one 2 10 (by kernel_rfl) (by kernel_rfl) (by kernel_rfl) ?_
            simp -dsimp -implicitDefEqProofs (disch := omega) [go_sem, -List.getD_eq_getElem?_getD, ite_yes, ht, hlt, hlti, hof, x1, n4, n5]
            first | refine AAt.of (by first | exact SubH.refl | exact SubH.app | exact SubH.both (by simp [subL])) ?_ | (refine ⟨?_, AAt.of (by first | exact SubH.refl | exact SubH.app | exact SubH.both (by simp [subL])) ?_⟩; · omega)
            refine AAny.one 1 14 (by kernel_rfl) (by kernel_rfl) (by kernel_rfl) ?_
            simp -dsimp -implicitDefEqProofs (disch := omega) [go_sem, -List.getD_eq_getElem?_getD, ite_yes, ht, hlt, hlti, hof, x1, n4, n5]
            first | refine AAt.of (by first | exact SubH.refl | exact SubH.app | exact SubH.both (by simp [subL])) ?_ | (refine ⟨?_, AAt.of (by first | exact SubH.refl | exact SubH.app | exact SubH.both (by simp [subL])) ?_⟩; · omega)
            refine AAny.takes (fuel := 0) (by kernel_rfl) (by kernel_rfl) [15] (by kernel_rfl) (by kernel_rfl) ?_
            simp -dsimp -implicitDefEqProofs (disch := omega) [go_sem, -List.getD_eq_getElem?_getD, ite_yes, ht, hlt, hlti, hof, x1, n4, n5]
            refine AAny.done (by kernel_rfl) ?_
            simp -dsimp -implicitDefEqProofs (disch := omega) [go_sem, -List.getD_eq_getElem?_getD, ite_yes, ht, hlt, hlti, hof, x1, n4, n5]
            try (refine ⟨weakS_mk [some 0, some 5] rfl ?_ (by simp -dsimp -implicitDefEqProofs (disch := omega) [go_sem, -List.getD_eq_getElem?_getD, ite_yes, ht, e4])⟩; simp -dsimp -implicitDefEqProofs (disch := omega) [go_sem, -List.getD_eq_getElem?_getD, ite_yes, ht, hlt, hlti, hof, x1, n4, n5]; rw [← ef]; exact ⟨.inl ⟨rfl, rfl⟩, wl_aks hOA'⟩)
            try (refine ⟨weakS_mk [some 0, some 6] rfl ?_ (by simp -dsimp -implicitDefEqProofs (disch := omega) [go_sem, -List.getD_eq_getElem?_getD, ite_yes, ht, e4])⟩; simp -dsimp -implicitDefEqProofs (disch := omega) [go_sem, -List.getD_eq_getElem?_getD, ite_yes, ht, hlt, hlti, hof, x1, n4, n5]; rw [← ef]; exact ⟨.inl ⟨rfl, rfl⟩, wl_aks hOA'⟩)
        · simp -dsimp -implicitDefEqProofs (disch := omega) [go_sem, -List.getD_eq_getElem?_getD, ite_yes, ht, hlt, hlti, hof, x1, n4, n5]
          first | refine AAt.of (by first | exact SubH.refl | exact SubH.app | exact SubH.both (by simp [subL])) ?_ | (refine ⟨?_, AAt.of (by first | exact SubH.refl | exact SubH.app | exact SubH.both (by simp [subL])) ?_⟩; · omega)
          refine AAny.one 4 0 (by kernel_rfl) (by kernel_rfl) (by kernel_rfl) ?_
          simp -dsimp -implicitDefEqProofs (disch := omega) [go_sem, -List.getD_eq_getElem?_getD, ite_yes, ht, hlt, hlti, hof, x1, n4, n5]
          first | refine AAt.of (by first | exact SubH.refl | exact SubH.app | exact SubH.both (by simp [subL])) ?_ | (refine ⟨?_, AAt.of (by first | exact SubH.refl | exact SubH.app | exact SubH.both (by simp [subL])) ?_⟩; · omega)
          refine AAny.one 3 4 (by kernel_rfl) (by kernel_rfl) (by kernel_rfl) ?_
          simp -dsimp -implicitDefEqProofs (disch := omega) [go_sem, -List.getD_eq_getElem?_getD, ite_yes, ht, hlt, hlti, hof, x1, n4, n5]
          first | refine AAt.of (by first | exact SubH.refl | exact SubH.app | exact SubH.both (by simp [subL])) ?_ | (refine ⟨?_, AAt.of (by first | exact SubH.refl | exact SubH.app | exact SubH.both (by simp [subL])) ?_⟩; · omega)
          refine AAny.one 2 10 (by kernel_rfl) (by kernel_rfl) (by kernel_rfl) ?_
          simp -dsimp -implicitDefEqProofs (disch := omega) [go_sem, -List.getD_eq_getElem?_getD, ite_yes, ht, hlt, hlti, hof, x1, n4, n5]
          first | refine AAt.of (by first | exact SubH.refl | exact SubH.app | exact SubH.both (by simp [subL])) ?_ | (refine ⟨?_, AAt.of (by first | exact SubH.refl | exact SubH.app | exact SubH.both (by simp [subL])) ?_⟩; · omega)
          refine AAny.one 1 14 (by kernel_rfl) (by kernel_rfl) (by kernel_rfl) ?_
          simp -dsimp -implicitDefEqProofs (disch := omega) [go_sem, -List.getD_eq_getElem?_getD, ite_yes, ht, hlt, hlti, hof, x1, n4, n5]
          first | refine AAt.of (by first | exact SubH.refl | exact SubH.app | exact SubH.both (by simp [subL])) ?_ | (refine ⟨?_, AAt.of (by first | exact SubH.refl | exact SubH.app | exact SubH.both (by simp [subL])) ?_⟩; · omega)
          refine AAny.takes (fuel := 0) (by kernel_rfl) (by kernel_rfl) [15] (by kernel_rfl) (by kernel_rfl) ?_
          simp -dsimp -implicitDefEqProofs (disch := omega) [go_sem, -List.getD_eq_getElem?_getD, ite_yes, ht, hlt, hlti, hof, x1, n4, n5]
          refine AAny.done (by kernel_rfl) ?_
          simp -dsimp -implicitDefEqProofs (disch := omega) [go_sem, -List.getD_eq_getElem?_getD, ite_yes, ht, hlt, hlti, hof, x1, n4, n5]
          try (refine ⟨weakS_mk [some 0, some 5] rfl ?_ (by simp -dsimp -implicitDefEqProofs (disch := omega) [go_sem, -List.getD_eq_getElem?_getD, ite_yes, ht, e4])⟩; simp -dsimp -implicitDefEqProofs (disch := omega) [go_sem, -List.getD_eq_getElem?_getD, ite_yes, ht, hlt, hlti, hof, x1, n4, n5]; rw [← ef]; exact ⟨.inl ⟨rfl, rfl⟩, wl_aks hOA'⟩)
          try (refine ⟨weakS_mk [some 0, some 6] rfl ?_ (by simp -dsimp -implicitDefEqProofs (disch := omega) [go_sem, -List.getD_eq_getElem?_getD, ite_yes, ht, e4])⟩; simp -dsimp -implicitDefEqProofs (disch := omega) [go_sem, -List.getD_eq_getElem?_getD, ite_yes, ht, hlt, hlti, hof, x1, n4, n5]; rw [← ef]; exact ⟨.inl ⟨rfl, rfl⟩, wl_aks hOA'⟩)
    simp -dsimp -implicitDefEqProofs (disch := omega) [go_sem, -List.getD_eq_getElem?_getD, ite_yes]
    refine LoopEnd.of (i + 1) (by omega) (by omega) (weakS_mk [some 0, some 1] rfl ?_ (by simp -dsimp -implicitDefEqProofs (disch := omega) [go_sem, -List.getD_eq_getElem?_getD, ite_yes, ht]))
    rw [hO']
    simp -dsimp -implicitDefEqProofs (disch := omega) [go_sem, -List.getD_eq_getElem?_getD, ite_yes]
    exact ⟨.inl ⟨rfl, rfl⟩, wl_aks hOA'⟩
  | succ k =>
  have hkl : k < O.length := by omega
  have fc := flatMap_cells akE 3 (fun _ => rfl) akD O k hkl
  have hym : O.getD k akD ∈ R := hOm _ (by rw [List.getD_eq_getElem?_getD, List.getElem?_eq_getElem hkl]; exact List.getElem_mem _)
  have hp : posK moreK O x (k + 1) = if moreK x (O.getD k akD) then posK moreK O x k else k + 1 := rfl
  generalize O.getD k akD = y at *
  simp only [akE] at fc
  have hk1 : k < i := by omega
  have hk1i : (k : Int) < (i : Int) := by omega
  have hk3 : k * 3 + 3 ≤ i * 3 := by omega
  have A := fun L => l17More_A x y (hAr x hxm) (hAr y hym) (roH (H ++ L)) (hS.ns x hxm).1.app.ro (hS.ns y hym).1.app.ro
  have hyA := hA y hym
  simp -dsimp -implicitDefEqProofs (disch := omega) [go_sem, -List.getD_eq_getElem?_getD, ite_yes, ht]
  refine ADraw.quiet (by kernel_rfl) (by kernel_rfl) (by kernel_rfl) ?_
  simp -dsimp -implicitDefEqProofs (disch := omega) [go_sem, -List.getD_eq_getElem?_getD, ite_yes, ht, hlt, hlti, hof, x1, fc, hk1, hk1i, hk3]
  refine ACallQ.of (A _) rfl ?_
  cases hc : moreK x y
  rotate_left
  · rw [hc, if_pos rfl] at hp
    simp -dsimp -implicitDefEqProofs (disch := omega) [go_sem, -List.getD_eq_getElem?_getD, ite_yes, ht]
    refine LoopEnd.of k ⟨by omega, hpos.trans hp⟩ (by omega) (weakS_mk [some 0, some 1] rfl ?_ (by simp -dsimp -implicitDefEqProofs (disch := omega) [go_sem, -List.getD_eq_getElem?_getD, ite_yes, ht]))
    simp -dsimp -implicitDefEqProofs (disch := omega) [go_sem, -List.getD_eq_getElem?_getD, ite_yes]
    exact ⟨.inl ⟨rfl, rfl⟩, wl_aks hOA⟩
  rw [hc] at hp
  simp only [Bool.false_eq_true, if_false] at hp
  have hpk : posK moreK O x i = k + 1 := hpos.trans hp
  rw [hpk] at eO
  have n1 := ak_take O (k + 1)
  have n2 := ak_drop O (k + 1)
  have n3 : (List.flatMap akE (List.take (k + 1) O)).length = (k + 1) * 3 := by rw [akE_length, List.length_take]; omega
  have n4 : (List.flatMap akE (List.drop (k + 1) O)).length = (i - (k + 1)) * 3 := by rw [akE_length, List.length_drop]; omega
  have n5 : List.take ((i - (k + 1)) * 3) (List.flatMap akE (List.drop (k + 1) O)) = List.flatMap akE (List.drop (k + 1) O) := List.take_of_length_le (by omega)
  have e4 : k + 1 + 1 + (i - (k + 1)) = i + 1 := by omega
  have ef : O'.flatMap akE = (O.take (k + 1)).flatMap akE ++ (akE x ++ (O.drop (k + 1)).flatMap akE) := by rw [eO]; simp
  simp only [akE, List.cons_append, List.nil_append] at ef
  have hki : ((k : Int) + 1) ≤ (i : Int) := by omega
  have hki2 : ((k : Int) + 1).toNat = k + 1 := by omega
  have hkn : k + 1 ≤ i := by omega
  simp -dsimp -implicitDefEqProofs (disch := omega) [go_sem, -List.getD_eq_getElem?_getD, ite_yes, ht, hlt, hlti, hof]
  refine ADraw.mid [(0, .slice (some ⟨t, 0, none⟩) R.length c), (4, .slice (some ⟨H.length, 0, none⟩) 0 0), (5, .slice (some ⟨H.length + 1, 0, none⟩) (i + 1) 0), (6, .int .i64 i)] (H ++ [some ⟨[], true, 3, 1⟩, some ⟨O'.flatMap akE, true, 26, 3⟩]) ?_ ?_
  · skip
    refine ADraw.any (H ++ [some ⟨[], true, 3, 1⟩, some ⟨O.flatMap akE, true, 26, 3⟩]) (by kernel_rfl) (by first | exact SubH.refl | exact SubH.app | exact SubH.both (by simp [subL])) ?_
    refine AAny.takes (fuel := 7) (by kernel_rfl) (by kernel_rfl) [1, 2, 3, 5, 6, 7, 11, 12, 13] (by kernel_rfl) (by kernel_rfl) ?_
    simp -dsimp -implicitDefEqProofs (disch := omega) [go_sem, -List.getD_eq_getElem?_getD, ite_yes, ht, hlt, hlti, hof, x1, hki, hki2, hkn, n1, n2, n3, n4, n5]
    refine AAny.two 6 0 8 (by kernel_rfl) (by kernel_rfl) (by kernel_rfl) ?_ ?_
    · simp -dsimp -implicitDefEqProofs (disch := omega) [go_sem, -List.getD_eq_getElem?_getD, ite_yes, ht, hlt, hlti, hof, x1, hki, hki2, hkn, n1, n2, n3, n4, n5]
      first | refine AAt.of (by first | exact SubH.refl | exact SubH.app | exact SubH.both (by simp [subL])) ?_ | (refine ⟨?_, AAt.of (by first | exact SubH.refl | exact SubH.app | exact SubH.both (by simp [subL])) ?_⟩; · omega)
      refine AAny.two 5 4 8 (by kernel_rfl) (by kernel_rfl) (by kernel_rfl) ?_ ?_
      · simp -dsimp -implicitDefEqProofs (disch := omega) [go_sem, -List.getD_eq_getElem?_getD, ite_yes, ht, hlt, hlti, hof, x1, hki, hki2, hkn, n1, n2, n3, n4, n5]
        first | refine AAt.of (by first | exact SubH.refl | exact SubH.app | exact SubH.both (by simp [subL])) ?_ | (refine ⟨?_, AAt.of (by first | exact SubH.refl | exact SubH.app | exact SubH.both (by simp [subL])) ?_⟩; · omega)
        refine AAny.one 4 8 (by kernel_rfl) (by kernel_rfl) (by kernel_rfl) ?_
        simp -dsimp -implicitDefEqProofs (disch := omega) [go_sem, -List.getD_eq_getElem?_getD, ite_yes, ht, hlt, hlti, hof, x1, hki, hki2, hkn, n1, n2, n3, n4, n5]
        first | refine AAt.of (by first | exact SubH.refl | exact SubH.app | exact SubH.both (by simp [subL])) ?_ | (refine ⟨?_, AAt.of (by first | exact SubH.refl | exact SubH.app | exact SubH.both (by simp [subL])) ?_⟩; · omega)
        refine AAny.one 3 9 (by kernel_rfl) (by kernel_rfl) (by kernel_rfl) ?_
        simp -dsimp -implicitDefEqProofs (disch := omega) [go_sem, -List.getD_eq_getElem?_getD, ite_yes, ht, hlt, hlti, hof, x1, hki, hki2, hkn, n1, n2, n3, n4, n5]
        first | refine AAt.of (by first | exact SubH.refl | exact SubH.app | exact SubH.both (by simp [subL])) ?_ | (refine ⟨?_, AAt.of (by first | exact SubH.refl | exact SubH.app | exact SubH.both (by simp [subL])) ?_⟩; · omega)
        refine AAny.one 2 10 (by kernel_rfl) (by kernel_rfl) (by kernel_rfl) ?_
        simp -dsimp -implicitDefEqProofs (disch := omega) [go_sem, -List.getD_eq_getElem?_getD, ite_yes, ht, hlt, hlti, hof, x1, hki, hki2, hkn, n1, n2, n3, n4, n5]
        first | refine AAt.of (by first | exact SubH.refl | exact SubH.app | exact SubH.both (by simp [subL])) ?_ | (refine ⟨?_, AAt.of (by first | exact SubH.refl | exact SubH.app | exact SubH.both (by simp [subL])) ?_⟩; · omega)
        refine AAny.one 1 14 (by kernel_rfl) (by kernel_rfl) (by kernel_rfl) ?_
        simp -dsimp -implicitDefEqProofs (disch := omega) [go_sem, -List.getD_eq_getElem?_getD, ite_yes, ht, hlt, hlti, hof, x1, hki, hki2, hkn, n1, n2, n3, n4, n5]
        first | refine AAt.of (by first | exact SubH.refl | exact SubH.app | exact SubH.both (by simp [subL])) ?_ | (refine ⟨?_, AAt.of (by first | exact SubH.refl | exact SubH.app | exact SubH.both (by simp [subL])) ?_⟩; · omega)
        refine AAny.takes (fuel := 0) (by kernel_rfl) (by kernel_rfl) [15] (by kernel_rfl) (by kernel_rfl) ?_
        simp -dsimp -implicitDefEqProofs (disch := omega) [go_sem, -List.getD_eq_getElem?_getD, ite_yes, ht, hlt, hlti, hof, x1, hki, hki2, hkn, n1, n2, n3, n4, n5]
        refine AAny.done (by kernel_rfl) ?_
        simp -dsimp -implicitDefEqProofs (disch := omega) [go_sem, -List.getD_eq_getElem?_getD, ite_yes, ht, hlt, hlti, hof, x1, hki, hki2, hkn, n1, n2, n3, n4, n5]
        try (refine ⟨weakS_mk [some 0, some 5] rfl ?_ (by simp -dsimp -implicitDefEqProofs (disch := omega) [go_sem, -List.getD_eq_getElem?_getD, ite_yes, ht, e4])⟩; simp -dsimp -implicitDefEqProofs (disch := omega) [go_sem, -List.getD_eq_getElem?_getD, ite_yes, ht, hlt, hlti, hof, x1, n1, n2, n3, n4, n5]; rw [← ef]; exact ⟨.inl ⟨rfl, rfl⟩, wl_aks hOA'⟩)
        try (refine ⟨weakS_mk [some 0, some 6] rfl ?_ (by simp -dsimp -implicitDefEqProofs (disch := omega) [go_sem, -List.getD_eq_getElem?_getD, ite_yes, ht, e4])⟩; simp -dsimp -implicitDefEqProofs (disch := omega) [go_sem, -List.getD_eq_getElem?_getD, ite_yes, ht, hlt, hlti, hof, x1, n1, n2, n3, n4, n5]; rw [← ef]; exact ⟨.inl ⟨rfl, rfl⟩, wl_aks hOA'⟩)
      · simp -dsimp -implicitDefEqProofs (disch := omega) [go_sem, -List.getD_eq_getElem?_getD, ite_yes, ht, hlt, hlti, hof, x1, hki, hki2, hkn, n1, n2, n3, n4, n5]
        first | refine AAt.of (by first | exact SubH.refl | exact SubH.app | exact SubH.both (by simp [subL])) ?_ | (refine ⟨?_, AAt.of (by first | exact SubH.refl | exact SubH.app | exact SubH.both (by simp [subL])) ?_⟩; · omega)
        refine AAny.two 4 4 9 (by kernel_rfl) (by kernel_rfl) (by kernel_rfl) ?_ ?_
        · simp -dsimp -implicitDefEqProofs (disch := omega) [go_sem, -List.getD_eq_getElem?_getD, ite_yes, ht, hlt, hlti, hof, x1, hki, hki2, hkn, n1, n2, n3, n4, n5]
          first | refine AAt.of (by first | exact SubH.refl | exact SubH.app | exact SubH.both (by simp [subL])) ?_ | (refine ⟨?_, AAt.of (by first | exact SubH.refl | exact SubH.app | exact SubH.both (by simp [subL])) ?_⟩; · omega)
          refine AAny.one 3 9 (by kernel_rfl) (by kernel_rfl) (by kernel_rfl) ?_
          simp -dsimp -implicitDefEqProofs (disch := omega) [go_sem, -List.getD_eq_getElem?_getD, ite_yes, ht, hlt, hlti, hof, x1, hki, hki2, hkn, n1, n2, n3, n4, n5]
          first | refine AAt.of (by first | exact SubH.refl | exact SubH.app | exact SubH.both (by simp [subL])) ?_ | (refine ⟨?_, AAt.of (by first | exact SubH.refl | exact SubH.app | exact SubH.both (by simp [subL])) ?_⟩; · omega)
          refine AAny.one 2 10 (by kernel_rfl) (by kernel_rfl) (by kernel_rfl) ?_
          simp -dsimp -implicitDefEqProofs (disch := omega) [go_sem, -List.getD_eq_getElem?_getD, ite_yes, ht, hlt, hlti, hof, x1, hki, hki2, hkn, n1, n2, n3, n4, n5]
          first | refine AAt.of (by first | exact SubH.refl | exact SubH.app | exact SubH.both (by simp [subL])) ?_ | (refine ⟨?_, AAt.of (by first | exact SubH.refl | exact SubH.app | exact SubH.both (by simp [subL])) ?_⟩; · omega)
          refine AAny.one 1 14 (by kernel_rfl) (by kernel_rfl) (by kernel_rfl) ?_
          simp -dsimp -implicitDefEqProofs (disch := omega) [go_sem, -List.getD_eq_getElem?_getD, ite_yes, ht, hlt, hlti, hof, x1, hki, hki2, hkn, n1, n2, n3, n4, n5]
          first | refine AAt.of (by first | exact SubH.refl | exact SubH.app | exact SubH.both (by simp [subL])) ?_ | (refine ⟨?_, AAt.of (by first | exact SubH.refl | exact SubH.app | exact SubH.both (by simp [subL])) ?_⟩; · omega)
          refine AAny.takes (fuel := 0) (by kernel_rfl) (by kernel_rfl) [15] (by kernel_rfl) (by kernel_rfl) ?_
          simp -dsimp -implicitDefEqProofs (disch := omega) [go_sem, -List.getD_eq_getElem?_getD, ite_yes, ht, hlt, hlti, hof, x1, hki, hki2, hkn, n1, n2, n3, n4, n5]
          refine AAny.done (by kernel_rfl) ?_
          simp -dsimp -implicitDefEqProofs (disch := omega) [go_sem, -List.getD_eq_getElem?_getD, ite_yes, ht, hlt, hlti, hof, x1, hki, hki2, hkn, n1, n2, n3, n4, n5]
          try (refine ⟨weakS_mk [some 0, some 5] rfl ?_ (by simp -dsimp -implicitDefEqProofs (disch := omega) [go_sem, -List.getD_eq_getElem?_getD, ite_yes, ht, e4])⟩; simp -dsimp -implicitDefEqProofs (disch := omega) [go_sem, -List.getD_eq_getElem?_getD, ite_yes, ht, hlt, hlti, hof, x1, n1, n2, n3, n4, n5]; rw [← ef]; exact ⟨.inl ⟨rfl, rfl⟩, wl_aks hOA'⟩)
          try (refine ⟨weakS_mk [some 0, some 6] rfl ?_ (by simp -dsimp -implicitDefEqProofs (disch := omega) [go_sem, -List.getD_eq_getElem?_getD, ite_yes, ht, e4])⟩; simp -dsimp -implicitDefEqProofs (disch := omega) [go_sem, -List.getD_eq_getElem?_getD, ite_yes, ht, hlt, hlti, hof, x1, n1, n2, n3, n4, n5]; rw [← ef]; exact ⟨.inl ⟨rfl, rfl⟩, wl_aks hOA'⟩)
        · simp -dsimp -implicitDefEqProofs (disch := omega) [go_sem, -List.getD_eq_getElem?_getD, ite_yes, ht, hlt, hlti, hof, x1, hki, hki2, hkn, n1, n2, n3, n4, n5]
          first | refine AAt.of (by first | exact SubH.refl | exact SubH.app | exact SubH.both (by simp [subL])) ?_ | (refine ⟨?_, AAt.of (by first | exact SubH.refl | exact SubH.app | exact SubH.both (by simp [subL])) ?_⟩; · omega)
          refine AAny.one 3 4 (by kernel_rfl) (by kernel_rfl) (by kernel_rfl) ?_
          simp -dsimp -implicitDefEqProofs (disch := omega) [go_sem, -List.getD_eq_getElem?_getD, ite_yes, ht, hlt, hlti, hof, x1, hki, hki2, hkn, n1, n2, n3, n4, n5]
          first | refine AAt.of (by first | exact SubH.refl | exact SubH.app | exact SubH.both (by simp [subL])) ?_ | (refine ⟨?_, AAt.of (by first | exact SubH.refl | exact SubH.app | exact SubH.both (by simp [subL])) ?_⟩; · omega)
          refine AAny.one 2 10 (by kernel_rfl) (by kernel_rfl) (by kernel_rfl) ?_
          simp -dsimp -implicitDefEqProofs (disch := omega) [go_sem, -List.getD_eq_getElem?_getD, ite_yes, ht, hlt, hlti, hof, x1, hki, hki2, hkn, n1, n2, n3, n4, n5]
          first | refine AAt.of (by first | exact SubH.refl | exact SubH.app | exact SubH.both (by simp [subL])) ?_ | (refine ⟨?_, AAt.of (by first | exact SubH.refl | exact SubH.app | exact SubH.both (by simp [subL])) ?_⟩; · omega)
          refine AAny.one 1 14 (by kernel_rfl) (by kernel_rfl) (by kernel_rfl) ?_
          simp -dsimp -implicitDefEqProofs (disch := omega) [go_sem, -List.getD_eq_getElem?_getD, ite_yes, ht, hlt, hlti, hof, x1, hki, hki2, hkn, n1, n2, n3, n4, n5]
          first | refine AAt.of (by first | exact SubH.refl | exact SubH.app | exact SubH.both (by simp [subL])) ?_ | (refine ⟨?_, AAt.of (by first | exact SubH.refl | exact SubH.app | exact SubH.both (by simp [subL])) ?_⟩; · omega)
          refine AAny.takes (fuel := 0) (by kernel_rfl) (by kernel_rfl) [15] (by kernel_rfl) (by kernel_rfl) ?_
          simp -dsimp -implicitDefEqProofs (disch := omega) [go_sem, -List.getD_eq_getElem?_getD, ite_yes, ht, hlt, hlti, hof, x1, hki, hki2, hkn, n1, n2, n3, n4, n5]
          refine AAny.done (by kernel_rfl) ?_
          simp -dsimp -implicitDefEqProofs (disch := omega) [go_sem, -List.getD_eq_getElem?_getD, ite_yes, ht, hlt, hlti, hof, x1, hki, hki2, hkn, n1, n2, n3, n4, n5]
          try (refine ⟨weakS_mk [some 0, some 5] rfl ?_ (by simp -dsimp -implicitDefEqProofs (disch := omega) [go_sem, -List.getD_eq_getElem?_getD, ite_yes, ht, e4])⟩; simp -dsimp -implicitDefEqProofs (disch := omega) [go_sem, -List.getD_eq_getElem?_getD, ite_yes, ht, hlt, hlti, hof, x1, n1, n2, n3, n4, n5]; rw [← ef]; exact ⟨.inl ⟨rfl, rfl⟩, wl_aks hOA'⟩)
          try (refine ⟨weakS_mk [some 0, some 6] rfl ?_ (by simp -dsimp -implicitDefEqProofs (disch := omega) [go_sem, -List.getD_eq_getElem?_getD, ite_yes, ht, e4])⟩; simp -dsimp -implicitDefEqProofs (disch := omega) [go_sem, -List.getD_eq_getElem?_getD, ite_yes, ht, hlt, hlti, hof, x1, n1, n2, n3, n4, n5]; rw [← ef]; exact ⟨.inl ⟨rfl, rfl⟩, wl_aks hOA'⟩)
    · simp -dsimp -implicitDefEqProofs (disch := omega) [go_sem, -List.getD_eq_getElem?_getD, ite_yes, ht, hlt, hlti, hof, x1, hki, hki2, hkn, n1, n2, n3, n4, n5]
      first | refine AAt.of (by first | exact SubH.refl | exact SubH.app | exact SubH.both (by simp [subL])) ?_ | (refine ⟨?_, AAt.of (by first | exact SubH.refl | exact SubH.app | exact SubH.both (by simp [subL])) ?_⟩; · omega)
      refine AAny.two 5 0 9 (by kernel_rfl) (by kernel_rfl) (by kernel_rfl) ?_ ?_
      · simp -dsimp -implicitDefEqProofs (disch := omega) [go_sem, -List.getD_eq_getElem?_getD, ite_yes, ht, hlt, hlti, hof, x1, hki, hki2, hkn, n1, n2, n3, n4, n5]
        first | refine AAt.of (by first | exact SubH.refl | exact SubH.app | exact SubH.both (by simp [subL])) ?_ | (refine ⟨?_, AAt.of (by first | exact SubH.refl | exact SubH.app | exact SubH.both (by simp [subL])) ?_⟩; · omega)
        refine AAny.two 4 4 9 (by kernel_rfl) (by kernel_rfl) (by kernel_rfl) ?_ ?_
        · simp -dsimp -implicitDefEqProofs (disch := omega) [go_sem, -List.getD_eq_getElem?_getD, ite_yes, ht, hlt, hlti, hof, x1, hki, hki2, hkn, n1, n2, n3, n4, n5]
          first | refine AAt.of (by first | exact SubH.refl | exact SubH.app | exact SubH.both (by simp [subL])) ?_ | (refine ⟨?_, AAt.of (by first | exact SubH.refl | exact SubH.app | exact SubH.both (by simp [subL])) ?_⟩; · omega)
          refine AAny.one 3 9 (by kernel_rfl) (by kernel_rfl) (by kernel_rfl) ?_
          simp -dsimp -implicitDefEqProofs (disch := omega) [go_sem, -List.getD_eq_getElem?_getD, ite_yes, ht, hlt, hlti, hof, x1, hki, hki2, hkn, n1, n2, n3, n4, n5]
          first | refine AAt.of (by first | exact SubH.refl | exact SubH.app | exact SubH.both (by simp [subL])) ?_ | (refine ⟨?_, AAt.of (by first | exact SubH.refl | exact SubH.app | exact SubH.both (by simp [subL])) ?_⟩; · omega)
          refine AAny.one 2 10 (by kernel_rfl) (by kernel_rfl) (by kernel_rfl) ?_
          simp -dsimp -implicitDefEqProofs (disch := omega) [go_sem, -List.getD_eq_getElem?_getD, ite_yes, ht, hlt, hlti, hof, x1, hki, hki2, hkn, n1, n2, n3, n4, n5]
          first | refine AAt.of (by first | exact SubH.refl | exact SubH.app | exact SubH.both (by simp [subL])) ?_ | (refine ⟨?_, AAt.of (by first | exact SubH.refl | exact SubH.app | exact SubH.both (by simp [subL])) ?_⟩; · omega)
          refine AAny.one 1 14 (by kernel_rfl) (by kernel_rfl) (by kernel_rfl) ?_
          simp -dsimp -implicitDefEqProofs (disch := omega) [go_sem, -List.getD_eq_getElem?_getD, ite_yes, ht, hlt, hlti, hof, x1, hki, hki2, hkn, n1, n2, n3, n4, n5]
          first | refine AAt.of (by first | exact SubH.refl | exact SubH.app | exact SubH.both (by simp [subL])) ?_ | (refine ⟨?_, AAt.of (by first | exact SubH.refl | exact SubH.app | exact SubH.both (by simp [subL])) ?_⟩; · omega)
          refine AAny.takes (fuel := 0) (by kernel_rfl) (by kernel_rfl) [15] (by kernel_rfl) (by kernel_rfl) ?_
          simp -dsimp -implicitDefEqProofs (disch := omega) [go_sem, -List.getD_eq_getElem?_getD, ite_yes, ht, hlt, hlti, hof, x1, hki, hki2, hkn, n1, n2, n3, n4, n5]
          refine AAny.done (by kernel_rfl) ?_
          simp -dsimp -implicitDefEqProofs (disch := omega) [go_sem, -List.getD_eq_getElem?_getD, ite_yes, ht, hlt, hlti, hof, x1, hki, hki2, hkn, n1, n2, n3, n4, n5]
          try (refine ⟨weakS_mk [some 0, some 5] rfl ?_ (by simp -dsimp -implicitDefEqProofs (disch := omega) [go_sem, -List.getD_eq_getElem?_getD, ite_yes, ht, e4])⟩; simp -dsimp -implicitDefEqProofs (disch := omega) [go_sem, -List.getD_eq_getElem?_getD, ite_yes, ht, hlt, hlti, hof, x1, n1, n2, n3, n4, n5]; rw [← ef]; exact ⟨.inl ⟨rfl, rfl⟩, wl_aks hOA'⟩)
          try (refine ⟨weakS_mk [some 0, some 6] rfl ?_ (by simp -dsimp -implicitDefEqProofs (disch := omega) [go_sem, -List.getD_eq_getElem?_getD, ite_yes, ht, e4])⟩; simp -dsimp -implicitDefEqProofs (disch := omega) [go_sem, -List.getD_eq_getElem?_getD, ite_yes, ht, hlt, hlti, hof, x1, n1, n2, n3, n4, n5]; rw [← ef]; exact ⟨.inl ⟨rfl, rfl⟩, wl_aks hOA'⟩)
        · simp -dsimp -implicitDefEqProofs (disch := omega) [go_sem, -List.getD_eq_getElem?_getD, ite_yes, ht, hlt, hlti, hof, x1, hki, hki2, hkn, n1, n2, n3, n4, n5]
          first | refine AAt.of (by first | exact SubH.refl | exact SubH.app | exact SubH.both (by simp [subL])) ?_ | (refine ⟨?_, AAt.of (by first | exact SubH.refl | exact SubH.app | exact SubH.both (by simp [subL])) ?_⟩; · omega)
          refine AAny.one 3 4 (by kernel_rfl) (by kernel_rfl) (by kernel_rfl) ?_
          simp -dsimp -implicitDefEqProofs (disch := omega) [go_sem, -List.getD_eq_getElem?_getD, ite_yes, ht, hlt, hlti, hof, x1, hki, hki2, hkn, n1, n2, n3, n4, n5]
          first | refine AAt.of (by first | exact SubH.refl | exact SubH.app | exact SubH.both (by simp [subL])) ?_ | (refine ⟨?_, AAt.of (by first | exact SubH.refl | exact SubH.app | exact SubH.both (by simp [subL])) ?_⟩; · omega)
          refine AAny.one 2 10 (by kernel_rfl) (by kernel_rfl) (by kernel_rfl) ?_
          simp -dsimp -implicitDefEqProofs (disch := omega) [go_sem, -List.getD_eq_getElem?_getD, ite_yes, ht, hlt, hlti, hof, x1, hki, hki2, hkn, n1, n2, n3, n4, n5]
          first | refine AAt.of (by first | exact SubH.refl | exact SubH.app | exact SubH.both (by simp [subL])) ?_ | (refine ⟨?_, AAt.of (by first | exact SubH.refl | exact SubH.app | exact SubH.both (by simp [subL])) ?_⟩; · omega)
          refine AAny.one 1 14 (by kernel_rfl) (by kernel_rfl) (by kernel_rfl) ?_
          simp -dsimp -implicitDefEqProofs (disch := omega) [go_sem, -List.getD_eq_getElem?_getD, ite_yes, ht, hlt, hlti, hof, x1, hki, hki2, hkn, n1, n2, n3, n4, n5]
          first | refine AAt.of (by first | exact SubH.refl | exact SubH.app | exact SubH.both (by simp [subL])) ?_ | (refine ⟨?_, AAt.of (by first | exact SubH.refl | exact SubH.app | exact SubH.both (by simp [subL])) ?_⟩; · omega)
          refine AAny.takes (fuel := 0) (by kernel_rfl) (by kernel_rfl) [15] (by kernel_rfl) (by kernel_rfl) ?_
          simp -dsimp -implicitDefEqProofs (disch := omega) [go_sem, -List.getD_eq_getElem?_getD, ite_yes, ht, hlt, hlti, hof, x1, hki, hki2, hkn, n1, n2, n3, n4, n5]
          refine AAny.done (by kernel_rfl) ?_
          simp -dsimp -implicitDefEqProofs (disch := omega) [go_sem, -List.getD_eq_getElem?_getD, ite_yes, ht, hlt, hlti, hof, x1, hki, hki2, hkn, n1, n2, n3, n4, n5]
          try (refine ⟨weakS_mk [some 0, some 5] rfl ?_ (by simp -dsimp -implicitDefEqProofs (disch := omega) [go_sem, -List.getD_eq_getElem?_getD, ite_yes, ht, e4])⟩; simp -dsimp -implicitDefEqProofs (disch := omega) [go_sem, -List.getD_eq_getElem?_getD, ite_yes, ht, hlt, hlti, hof, x1, n1, n2, n3, n4, n5]; rw [← ef]; exact ⟨.inl ⟨rfl, rfl⟩, wl_aks hOA'⟩)
          try (refine ⟨weakS_mk [some 0, some 6] rfl ?_ (by simp -dsimp -implicitDefEqProofs (disch := omega) [go_sem, -List.getD_eq_getElem?_getD, ite_yes, ht, e4])⟩; simp -dsimp -implicitDefEqProofs (disch := omega) [go_sem, -List.getD_eq_getElem?_getD, ite_yes, ht, hlt, hlti, hof, x1, n1, n2, n3, n4, n5]; rw [← ef]; exact ⟨.inl ⟨rfl, rfl⟩, wl_aks hOA'⟩)
      · simp -dsimp -implicitDefEqProofs (disch := omega) [go_sem, -List.getD_eq_getElem?_getD, ite_yes, ht, hlt, hlti, hof, x1, hki, hki2, hkn, n1, n2, n3, n4, n5]
        first | refine AAt.of (by first | exact SubH.refl | exact SubH.app | exact SubH.both (by simp [subL])) ?_ | (refine ⟨?_, AAt.of (by first | exact SubH.refl | exact SubH.app | exact SubH.both (by simp [subL])) ?_⟩; · omega)
        refine AAny.one 4 0 (by kernel_rfl) (by kernel_rfl) (by kernel_rfl) ?_
        simp -dsimp -implicitDefEqProofs (disch := omega) [go_sem, -List.getD_eq_getElem?_getD, ite_yes, ht, hlt, hlti, hof, x1, hki, hki2, hkn, n1, n2, n3, n4, n5]
        first | refine AAt.of (by first | exact SubH.refl | exact SubH.app | exact SubH.both (by simp [subL])) ?_ | (refine ⟨?_, AAt.of (by first | exact SubH.refl | exact SubH.app | exact SubH.both (by simp [subL])) ?_⟩; · omega)
        refine AAny.one 3 4 (by kernel_rfl) (by kernel_rfl) (by kernel_rfl) ?_
        simp -dsimp -implicitDefEqProofs (disch := omega) [go_sem, -List.getD_eq_getElem?_getD, ite_yes, ht, hlt, hlti, hof, x1, hki, hki2, hkn, n1, n2, n3, n4, n5]
        first | refine AAt.of (by first | exact SubH.refl | exact SubH.app | exact SubH.both (by simp [subL])) ?_ | (refine ⟨?_, AAt.of (by first | exact SubH.refl | exact SubH.app | exact SubH.both (by simp [subL])) ?_⟩; · omega)
        refine AAny.one 2 10 (by kernel_rfl) (by kernel_rfl) (by kernel_rfl) ?_
        simp -dsimp -implicitDefEqProofs (disch := omega) [go_sem, -List.getD_eq_getElem?_getD, ite_yes, ht, hlt, hlti, hof, x1, hki, hki2, hkn, n1, n2, n3, n4, n5]
        first | refine AAt.of (by first | exact SubH.refl | exact SubH.app | exact SubH.both (by simp [subL])) ?_ | (refine ⟨?_, AAt.of (by first | exact SubH.refl | exact SubH.app | exact SubH.both (by simp [subL])) ?_⟩; · omega)
        refine AAny.one 1 14 (by kernel_rfl) (by kernel_rfl) (by kernel_rfl) ?_
        simp -dsimp -implicitDefEqProofs (disch := omega) [go_sem, -List.getD_eq_getElem?_getD, ite_yes, ht, hlt, hlti, hof, x1, hki, hki2, hkn, n1, n2, n3, n4, n5]
        first | refine AAt.of (by first | exact SubH.refl | exact SubH.app | exact SubH.both (by simp [subL])) ?_ | (refine ⟨?_, AAt.of (by first | exact SubH.refl | exact SubH.app | exact SubH.both (by simp [subL])) ?_⟩; · omega)
        refine AAny.takes (fuel := 0) (by kernel_rfl) (by kernel_rfl) [15] (by kernel_rfl) (by kernel_rfl) ?_
        simp -dsimp -implicitDefEqProofs (disch := omega) [go_sem, -List.getD_eq_getElem?_getD, ite_yes, ht, hlt, hlti, hof, x1, hki, hki2, hkn, n1, n2, n3, n4, n5]
        refine AAny.done (by kernel_rfl) ?_
        simp -dsimp -implicitDefEqProofs (disch := omega) [go_sem, -List.getD_eq_getElem?_getD, ite_yes, ht, hlt, hlti, hof, x1, hki, hki2, hkn, n1, n2, n3, n4, n5]
        try (refine ⟨weakS_mk [some 0, some 5] rfl ?_ (by simp -dsimp -implicitDefEqProofs (disch := omega) [go_sem, -List.getD_eq_getElem?_getD, ite_yes, ht, e4])⟩; simp -dsimp -implicitDefEqProofs (disch := omega) [go_sem, -List.getD_eq_getElem?_getD, ite_yes, ht, hlt, hlti, hof, x1, n1, n2, n3, n4, n5]; rw [← ef]; exact ⟨.inl ⟨rfl, rfl⟩, wl_aks hOA'⟩)
        try (refine ⟨weakS_mk [some 0, some 6] rfl ?_ (by simp -dsimp -implicitDefEqProofs (disch := omega) [go_sem, -List.getD_eq_getElem?_getD, ite_yes, ht, e4])⟩; simp -dsimp -implicitDefEqProofs (disch := omega) [go_sem, -List.getD_eq_getElem?_getD, ite_yes, ht, hlt, hlti, hof, x1, n1, n2, n3, n4, n5]; rw [← ef]; exact ⟨.inl ⟨rfl, rfl⟩, wl_aks hOA'⟩)
  simp -dsimp -implicitDefEqProofs (disch := omega) [go_sem, -List.getD_eq_getElem?_getD, ite_yes]
  refine LoopEnd.of (i + 1) (by omega) (by omega) (weakS_mk [some 0, some 1] rfl ?_ (by simp -dsimp -implicitDefEqProofs (disch := omega) [go_sem, -List.getD_eq_getElem?_getD, ite_yes, ht]))
  rw [hO']
  simp -dsimp -implicitDefEqProofs (disch := omega) [go_sem, -List.getD_eq_getElem?_getD, ite_yes]
  exact ⟨.inl ⟨rfl, rfl⟩, wl_aks hOA'⟩
end Go.Proofs.Yteojpgmclplggaa
/- The laws' rBig and rInts. -/
namespace Go.Proofs.Yteojpgmclplggaa
open Go.Am
set_option linter.unusedVariables false
set_option linter.unusedSimpArgs false
set_option maxRecDepth 100000
set_option maxHeartbeats 1000000

theorem rBig_A (n cc : Nat) (a : Option Addr) (H : Heap) : AFunC Try.prog 4 [.slice a n cc] H (.bool (decide (65536 < (n : Int)))) H := by
  refine AFunC.of_body Try.func4 (by kernel_rfl) rfl (by kernel_rfl) (by simp [Try.ntmps4]) ?_
  simp -dsimp -implicitDefEqProofs (disch := omega) [go_sem, -List.getD_eq_getElem?_getD, ite_yes]
  exact fin_flat0 rfl (by first | rfl | simp)
theorem rInts_same (l : List Int) (hl : l.length ≤ 1048577) (c d : Nat) (H : Heap) (t u : Nat) (hS : Sl nmE H t l) (hU : Sl nmE H u l) :
    AFunC Try.prog 13 [.slice (some ⟨t, 0, none⟩) l.length c, .slice (some ⟨u, 0, none⟩) l.length d] H (.bool true) H := by
  refine AFunC.of_body Try.func13 (by kernel_rfl) rfl (by kernel_rfl) (by simp [Try.ntmps13]) ?_
  have ht := hS.lt
  have hu := hU.lt
  have cs := fun k hk => hS.one (g := fun n => Value.int .i64 n) 0 k hk
  have cu := fun k hk => hU.one (g := fun n => Value.int .i64 n) 0 k hk
  simp -dsimp -implicitDefEqProofs (disch := omega) [go_sem, -List.getD_eq_getElem?_getD, ite_yes]
  refine ALoop.intro (ι := Nat) (fun k => k ≤ l.length) (fun k => [(0, .slice (some ⟨t, 0, none⟩) l.length c), (1, .slice (some ⟨u, 0, none⟩) l.length d), (5, .int .i64 k)]) (fun _ => H) (fun k => l.length - k) 0 (by omega) ?_ ?_
  · exact weakS_same (by simp -dsimp -implicitDefEqProofs (disch := omega) [go_sem, -List.getD_eq_getElem?_getD, ite_yes, ht, hu])
  · intro k hk
    by_cases hlt : k < l.length
    · simp -dsimp -implicitDefEqProofs (disch := omega) [go_sem, -List.getD_eq_getElem?_getD, ite_yes, hlt]
      refine ADraw.quiet (by kernel_rfl) (by kernel_rfl) (by kernel_rfl) ?_
      simp -dsimp -implicitDefEqProofs (disch := omega) [go_sem, -List.getD_eq_getElem?_getD, ite_yes, hlt, cs, cu]
      refine LoopEnd.of (k + 1) (by omega) (by omega) (weakS_same (by simp -dsimp -implicitDefEqProofs (disch := omega) [go_sem, -List.getD_eq_getElem?_getD, ite_yes, ht, hu]))
    · simp -dsimp -implicitDefEqProofs (disch := omega) [go_sem, -List.getD_eq_getElem?_getD, ite_yes, hlt]
      exact fin_flat0 rfl rfl
theorem rInts_nil (d u : Nat) (H : Heap) : AFunC Try.prog 13 [.slice none 0 0, .slice (some ⟨u, 0, none⟩) 0 d] H (.bool true) H := by
  refine AFunC.of_body Try.func13 (by kernel_rfl) rfl (by kernel_rfl) (by simp [Try.ntmps13]) ?_
  simp -dsimp -implicitDefEqProofs (disch := omega) [go_sem, -List.getD_eq_getElem?_getD, ite_yes]
  refine ALoop.intro (ι := Unit) (fun _ => True) (fun _ => [(0, .slice none 0 0), (5, .int .i64 0)]) (fun _ => H) (fun _ => 0) () trivial ?_ ?_
  · exact weakS_same (by simp -dsimp -implicitDefEqProofs (disch := omega) [go_sem, -List.getD_eq_getElem?_getD, ite_yes])
  · intro _ _
    simp -dsimp -implicitDefEqProofs (disch := omega) [go_sem, -List.getD_eq_getElem?_getD, ite_yes]
    exact fin_flat0 rfl rfl
end Go.Proofs.Yteojpgmclplggaa
/- FnLeakLosses: the law. -/
namespace Go.Am
set_option linter.unusedVariables false
theorem weakS_kq {H G : Heap} {fr fr' : Fr} (h : ∀ t, t < H.length → G.get t = H.get t) (hf : FrW (sg H.length []) H.length fr' fr) : WeakS H fr' H fr G := by
  refine ⟨sg H.length [], ⟨Nat.le_refl _, fun t ht => by simp only [sg, ht, if_true], fun t b' hb => ?_, fun t t' s b b' hne h1 h2 => ?_⟩, hf⟩
  · have ht := Heap.get_lt hb
    exact .inl ⟨ht, (h t ht).trans hb, hb⟩
  · have e : ∀ t s, sg H.length [] t = some s → s = t := by
      intro t s h
      unfold sg at h
      split at h
      · injection h with h; exact h.symm
      · simp at h
    exact absurd ((e _ _ h1).symm.trans (e _ _ h2)) hne
end Go.Am
namespace Go.Proofs.Yteojpgmclplggaa
open Go.Am Go.Lib
set_option linter.unusedVariables false
set_option linter.unusedSimpArgs false
set_option maxRecDepth 100000
set_option maxHeartbeats 8000000
theorem lawLeakLosses_A {H : Heap} {tc n : Nat} (h : Bytes H tc n) (cc : Nat) : AFunC Try.prog 3 [.slice (some ⟨tc, 0, none⟩) n cc] H (.bool true) H := by
  refine AFunC.of_awp Try.func3 (by kernel_rfl) rfl (by simp [Try.ntmps3]) ?_
  have ht := h.lt
  refine AWp.step 2 [(0, .slice (some ⟨tc, 0, none⟩) n cc)] H (by kernel_rfl) (by kernel_rfl) ?_ ?_
  · simp -dsimp -implicitDefEqProofs (disch := omega) [go_sem, -List.getD_eq_getElem?_getD, ite_yes]
    refine ACall.of (rBig_A _ _ _ _) ?_
    simp -dsimp -implicitDefEqProofs (disch := omega) [go_sem, -List.getD_eq_getElem?_getD, ite_yes]
    refine AIf.of (fun h' => ?_) (fun h' => ?_)
    · simp -dsimp -implicitDefEqProofs (disch := omega) [go_sem, -List.getD_eq_getElem?_getD, ite_yes]
      exact fin_flat0 rfl rfl
    · simp -dsimp -implicitDefEqProofs (disch := omega) [go_sem, -List.getD_eq_getElem?_getD, ite_yes]
      exact ⟨weakS_same (by simp -dsimp -implicitDefEqProofs (disch := omega) [go_sem, -List.getD_eq_getElem?_getD, ite_yes, ht])⟩
  simp only [AWp_drop, AWp_drop0]
  refine AWp.step 3 [(0, .slice (some ⟨tc, 0, none⟩) n cc)] H (by kernel_rfl) (by kernel_rfl) ?_ ?_
  · simp -dsimp -implicitDefEqProofs (disch := omega) [go_sem, -List.getD_eq_getElem?_getD, ite_yes]
    refine ACall.via (drawLossOn_R h cc) ?_
    rintro _ _ ⟨id, ho, x, L, rfl, hl, rfl⟩
    cases hg : lossOk id ho L x
    · simp -dsimp -implicitDefEqProofs (disch := omega) [go_sem, -List.getD_eq_getElem?_getD, ite_yes]
      refine ACall.of (iLossOn_bad id ho L (by omega) x hg _ _ _ (Sl.of rfl)) ?_
      simp -dsimp -implicitDefEqProofs (disch := omega) [go_sem, -List.getD_eq_getElem?_getD, ite_yes]
      refine ACall.of (sLossOn_bad id ho L (by omega) x hg _ _ _ (Sl.of rfl)) ?_
      simp -dsimp -implicitDefEqProofs (disch := omega) [go_sem, -List.getD_eq_getElem?_getD, ite_yes]
      refine ADraw.quiet (by kernel_rfl) (by kernel_rfl) (by kernel_rfl) ?_
      simp -dsimp -implicitDefEqProofs (disch := omega) [go_sem, -List.getD_eq_getElem?_getD, ite_yes]
      exact ⟨weakS_drop (by simp -dsimp -implicitDefEqProofs (disch := omega) [go_sem, -List.getD_eq_getElem?_getD, ite_yes, ht])⟩
    obtain ⟨ha, k, rfl, hk⟩ := lossOk_at hg
    have hA := area_at ha
    have r := loss_rng hA hk
    have hh := hA.h
    have I := fun c H t hS => iLossOn_good id ho L k hg c H t hS
    have S := fun c H t hS => sLossOn_good id ho L k hg c H t hS
    have e : 0 < lossN ho L k → lossN ho L k = L.getD k 0 - 2 * ho := by unfold lossN; omega
    have e0 : 0 < lossN ho L k → L.getD k 0 ≤ 1020000 ∧ 0 ≤ L.getD k 0 := by intro h0; have := e h0; omega
    have lf := nmE_length L
    have fc : List.take 1 (List.drop k (L.flatMap nmE)) = [.int .i64 (L.getD k 0)] := nmI_cell L hk
    generalize lossN ho L k = w at *
    generalize L.getD k 0 = y at *
    have hw : ¬ w < 0 := by omega
    simp -dsimp -implicitDefEqProofs (disch := omega) [go_sem, -List.getD_eq_getElem?_getD, ite_yes]
    refine ACall.of (I _ _ _ (Sl.of rfl)) ?_
    simp -dsimp -implicitDefEqProofs (disch := omega) [go_sem, -List.getD_eq_getElem?_getD, ite_yes]
    refine ACall.of (S _ _ _ (Sl.of rfl)) ?_
    simp -dsimp -implicitDefEqProofs (disch := omega) [go_sem, -List.getD_eq_getElem?_getD, ite_yes]
    refine ADraw.quiet (by kernel_rfl) (by kernel_rfl) (by kernel_rfl) ?_
    by_cases h0 : 0 < w
    · have e1 := e h0
      have e2 := e0 h0
      have e3 : (w = y - 2 * ho) = True := eq_true e1
      simp -dsimp -implicitDefEqProofs (disch := omega) [go_sem, -List.getD_eq_getElem?_getD, ite_yes, h0, hw, fc, hk, lf, e3]
      exact ⟨weakS_drop (by simp -dsimp -implicitDefEqProofs (disch := omega) [go_sem, -List.getD_eq_getElem?_getD, ite_yes, ht])⟩
    · simp -dsimp -implicitDefEqProofs (disch := omega) [go_sem, -List.getD_eq_getElem?_getD, ite_yes, h0, hw]
      exact ⟨weakS_drop (by simp -dsimp -implicitDefEqProofs (disch := omega) [go_sem, -List.getD_eq_getElem?_getD, ite_yes, ht])⟩
  simp only [AWp_drop, AWp_drop0]
  refine AWp.step 6 [(0, .slice (some ⟨tc, 0, none⟩) n cc)] H (by kernel_rfl) (by kernel_rfl) ?_ ?_
  · simp -dsimp -implicitDefEqProofs (disch := omega) [go_sem, -List.getD_eq_getElem?_getD, ite_yes]
    refine ACall.via (drawLost_R h cc) ?_
    rintro _ _ ⟨lo, ho, b, o, rfl, hl, hh, hb, rfl⟩
    have hal : (b.drop o).length ≤ 20 := by rw [List.length_drop]; omega
    have hW := fun H w (hS : Sl nmE H w b) => IdS.dropI hS o
    generalize b.drop o = a at *
    have L1 := fun c d e H t u w hS hU hW => iLost_A lo ho a (by omega) (by omega) (by omega) c d e H t u w hS hU o hW
    have L2 := fun c d e H t u w hS hU hW => sLost_A lo ho a (by omega) (by omega) (by omega) c d e H t u w hS hU o hW
    cases hg : repB lo ho
    · have hk : lostOk lo ho a = false := by unfold lostOk; rw [hg]; rfl
      rw [hk] at L1 L2
      simp only [lostV, Bool.false_eq_true, if_false] at L1 L2
      simp -dsimp -implicitDefEqProofs (disch := omega) [go_sem, -List.getD_eq_getElem?_getD, ite_yes]
      refine ACall.of (L1 _ _ _ _ _ _ _ (Sl.of rfl) (Sl.nth 1 rfl rfl) (hW _ _ (Sl.nth 2 rfl rfl))) ?_
      simp -dsimp -implicitDefEqProofs (disch := omega) [go_sem, -List.getD_eq_getElem?_getD, ite_yes]
      refine ACall.of (L2 _ _ _ _ _ _ _ (Sl.of rfl) (Sl.nth 1 rfl rfl) (hW _ _ (Sl.nth 2 rfl rfl))) ?_
      simp -dsimp -implicitDefEqProofs (disch := omega) [go_sem, -List.getD_eq_getElem?_getD, ite_yes]
      refine ACall.of (iRepair_bad lo ho (by omega) (by omega) hg _ _ _ _ _ (Sl.of rfl) (Sl.nth 1 rfl rfl)) ?_
      simp -dsimp -implicitDefEqProofs (disch := omega) [go_sem, -List.getD_eq_getElem?_getD, ite_yes]
      refine ACall.of (sRepair_bad lo ho (by omega) (by omega) hg _ _ _ _ _ (Sl.of rfl) (Sl.nth 1 rfl rfl)) ?_
      simp -dsimp -implicitDefEqProofs (disch := omega) [go_sem, -List.getD_eq_getElem?_getD, ite_yes]
      refine ACall.of (rInts_nil _ _ _) ?_
      simp -dsimp -implicitDefEqProofs (disch := omega) [go_sem, -List.getD_eq_getElem?_getD, ite_yes]
      exact ⟨weakS_drop (by simp -dsimp -implicitDefEqProofs (disch := omega) [go_sem, -List.getD_eq_getElem?_getD, ite_yes, ht])⟩
    have hR := repB_at hg
    have eS := ordI_length (rp lo ho) lo.length
    have hO := ordI_ordV (rp lo ho) lo.length
    have hSk := lostOk_of hg hO
    have hle := fun h => repair_least hR (a := a) h
    have B := fun c d e H t u w hS hU hW => iLost_A lo ho (ordI (rp lo ho) lo.length) (by omega) (by omega) (by omega) c d e H t u w hS hU 0 hW
    rw [hSk] at B
    have R1 := fun c d H t u => iRepair_good lo ho hg c d H t u
    have R2 := fun c d H t u => sRepair_good lo ho hg c d H t u
    have hq : (ordI (rp lo ho) lo.length).length ≤ 1048577 := by omega
    have V := fun c d H t u => rInts_same (ordI (rp lo ho) lo.length) hq c d H t u
    rw [eS] at B hle V
    simp only [lostV, if_true] at B
    generalize ordI (rp lo ho) lo.length = S at *
    generalize (lostTo lo ho S lo.length).1 = z at *
    cases hk : lostOk lo ho a
    · rw [hk] at L1 L2
      simp only [lostV, Bool.false_eq_true, if_false] at L1 L2
      simp -dsimp -implicitDefEqProofs (disch := omega) [go_sem, -List.getD_eq_getElem?_getD, ite_yes]
      refine ACall.of (L1 _ _ _ _ _ _ _ (Sl.of rfl) (Sl.nth 1 rfl rfl) (hW _ _ (Sl.nth 2 rfl rfl))) ?_
      simp -dsimp -implicitDefEqProofs (disch := omega) [go_sem, -List.getD_eq_getElem?_getD, ite_yes]
      refine ACall.of (L2 _ _ _ _ _ _ _ (Sl.of rfl) (Sl.nth 1 rfl rfl) (hW _ _ (Sl.nth 2 rfl rfl))) ?_
      simp -dsimp -implicitDefEqProofs (disch := omega) [go_sem, -List.getD_eq_getElem?_getD, ite_yes]
      refine ACall.of (R1 _ _ _ _ _ (Sl.of rfl) (Sl.nth 1 rfl rfl)) ?_
      simp -dsimp -implicitDefEqProofs (disch := omega) [go_sem, -List.getD_eq_getElem?_getD, ite_yes]
      refine ACall.of (R2 _ _ _ _ _ (Sl.of rfl) (Sl.nth 1 rfl rfl)) ?_
      simp -dsimp -implicitDefEqProofs (disch := omega) [go_sem, -List.getD_eq_getElem?_getD, ite_yes]
      refine ACall.of (V _ _ _ _ _ (Sl.nth 3 rfl rfl) (Sl.nth 4 rfl rfl)) ?_
      simp -dsimp -implicitDefEqProofs (disch := omega) [go_sem, -List.getD_eq_getElem?_getD, ite_yes]
      refine ACall.of (B _ _ _ _ _ _ _ (Sl.of rfl) (Sl.nth 1 rfl rfl) (IdS.of (Sl.nth 3 rfl rfl))) ?_
      simp -dsimp -implicitDefEqProofs (disch := omega) [go_sem, -List.getD_eq_getElem?_getD, ite_yes]
      exact ⟨weakS_drop (by simp -dsimp -implicitDefEqProofs (disch := omega) [go_sem, -List.getD_eq_getElem?_getD, ite_yes, ht])⟩
    have hle := hle (lostOk_at hk).2
    rw [hk] at L1 L2
    simp only [lostV, if_true] at L1 L2
    generalize (lostTo lo ho a a.length).1 = w at *
    have hn : ¬ w < z := by omega
    simp -dsimp -implicitDefEqProofs (disch := omega) [go_sem, -List.getD_eq_getElem?_getD, ite_yes]
    refine ACall.of (L1 _ _ _ _ _ _ _ (Sl.of rfl) (Sl.nth 1 rfl rfl) (hW _ _ (Sl.nth 2 rfl rfl))) ?_
    simp -dsimp -implicitDefEqProofs (disch := omega) [go_sem, -List.getD_eq_getElem?_getD, ite_yes]
    refine ACall.of (L2 _ _ _ _ _ _ _ (Sl.of rfl) (Sl.nth 1 rfl rfl) (hW _ _ (Sl.nth 2 rfl rfl))) ?_
    simp -dsimp -implicitDefEqProofs (disch := omega) [go_sem, -List.getD_eq_getElem?_getD, ite_yes]
    refine ACall.of (R1 _ _ _ _ _ (Sl.of rfl) (Sl.nth 1 rfl rfl)) ?_
    simp -dsimp -implicitDefEqProofs (disch := omega) [go_sem, -List.getD_eq_getElem?_getD, ite_yes]
    refine ACall.of (R2 _ _ _ _ _ (Sl.of rfl) (Sl.nth 1 rfl rfl)) ?_
    simp -dsimp -implicitDefEqProofs (disch := omega) [go_sem, -List.getD_eq_getElem?_getD, ite_yes]
    refine ACall.of (V _ _ _ _ _ (Sl.nth 3 rfl rfl) (Sl.nth 4 rfl rfl)) ?_
    simp -dsimp -implicitDefEqProofs (disch := omega) [go_sem, -List.getD_eq_getElem?_getD, ite_yes]
    refine ACall.of (B _ _ _ _ _ _ _ (Sl.of rfl) (Sl.nth 1 rfl rfl) (IdS.of (Sl.nth 3 rfl rfl))) ?_
    simp -dsimp -implicitDefEqProofs (disch := omega) [go_sem, -List.getD_eq_getElem?_getD, ite_yes, hn]
    exact ⟨weakS_drop (by simp -dsimp -implicitDefEqProofs (disch := omega) [go_sem, -List.getD_eq_getElem?_getD, ite_yes, ht])⟩
  simp only [AWp_drop, AWp_drop0]
  refine AWp.step 3 [(0, .slice (some ⟨tc, 0, none⟩) n cc)] H (by kernel_rfl) (by kernel_rfl) ?_ ?_
  · simp -dsimp -implicitDefEqProofs (disch := omega) [go_sem, -List.getD_eq_getElem?_getD, ite_yes]
    refine ACall.via (drawRank_R h cc) ?_
    rintro _ G ⟨R, u, rfl, hl, hA, hV, hQ⟩
    have gu := hA.sp.lt
    have gt : tc < G.length := by have := hQ.1; omega
    cases hg : rankB R
    · simp -dsimp -implicitDefEqProofs (disch := omega) [go_sem, -List.getD_eq_getElem?_getD, ite_yes, gu, gt]
      refine ACall.of (iRank_bad R (by omega) hg _ _ _ hA) ?_
      simp -dsimp -implicitDefEqProofs (disch := omega) [go_sem, -List.getD_eq_getElem?_getD, ite_yes, gu, gt]
      refine ACall.of (sRank_bad R (by omega) hg _ _ _ hA) ?_
      simp -dsimp -implicitDefEqProofs (disch := omega) [go_sem, -List.getD_eq_getElem?_getD, ite_yes, gu, gt]
      refine ACall.of (rInts_nil _ _ _) ?_
      simp -dsimp -implicitDefEqProofs (disch := omega) [go_sem, -List.getD_eq_getElem?_getD, ite_yes, gu, gt]
      exact ⟨weakS_kq (hQ.trans KQ.app).2 (by simp -dsimp -implicitDefEqProofs (disch := omega) [go_sem, -List.getD_eq_getElem?_getD, ite_yes, ht])⟩
    have I := fun c H t hS => iRank_good R hg c H t hS
    have S := fun c H t hS => sRank_good R hg c H t hS
    have eN := rankN_length R
    have hN : (rankN R).length ≤ 1048577 := by omega
    have V := fun c d H t u => rInts_same (rankN R) hN c d H t u
    rw [eN] at I S V
    generalize rankN R = N at *
    simp -dsimp -implicitDefEqProofs (disch := omega) [go_sem, -List.getD_eq_getElem?_getD, ite_yes, gu, gt]
    refine ACall.of (I _ _ _ hA) ?_
    simp -dsimp -implicitDefEqProofs (disch := omega) [go_sem, -List.getD_eq_getElem?_getD, ite_yes, gu, gt]
    refine ACall.of (S _ _ _ hA.app) ?_
    simp -dsimp -implicitDefEqProofs (disch := omega) [go_sem, -List.getD_eq_getElem?_getD, ite_yes, gu, gt]
    refine ACall.of (V _ _ _ _ _ (Sl.of rfl) (Sl.nth 1 rfl rfl)) ?_
    simp -dsimp -implicitDefEqProofs (disch := omega) [go_sem, -List.getD_eq_getElem?_getD, ite_yes, gu, gt]
    exact ⟨weakS_kq (hQ.trans KQ.app).2 (by simp -dsimp -implicitDefEqProofs (disch := omega) [go_sem, -List.getD_eq_getElem?_getD, ite_yes, ht])⟩
  simp only [AWp_drop, AWp_drop0]
  refine AWp.last (by kernel_rfl) ?_
  simp -dsimp -implicitDefEqProofs (disch := omega) [go_sem, -List.getD_eq_getElem?_getD, ite_yes]
  refine ACall.via (drawMean_R h cc) ?_
  rintro _ _ ⟨id, ho, L, rfl, hl, rfl⟩
  have W := fun c H t hS => validArea_A id ho L (by omega) c H t hS
  cases hg : areaB id ho L
  · rw [hg] at W
    simp -dsimp -implicitDefEqProofs (disch := omega) [go_sem, -List.getD_eq_getElem?_getD, ite_yes]
    refine ACall.of (iMean_bad id ho L (by omega) hg _ _ _ (Sl.of rfl)) ?_
    simp -dsimp -implicitDefEqProofs (disch := omega) [go_sem, -List.getD_eq_getElem?_getD, ite_yes]
    refine ACall.of (sMean_bad id ho L (by omega) hg _ _ _ (Sl.of rfl)) ?_
    simp -dsimp -implicitDefEqProofs (disch := omega) [go_sem, -List.getD_eq_getElem?_getD, ite_yes]
    refine ACall.of (W _ _ _ (Sl.of rfl)) ?_
    simp -dsimp -implicitDefEqProofs (disch := omega) [go_sem, -List.getD_eq_getElem?_getD, ite_yes]
    exact fin_flat rfl rfl
  rw [hg] at W
  have I := fun c H t hS => iMean_good id ho L hg c H t hS
  have S := fun c H t hS => sMean_good id ho L hg c H t hS
  generalize (lossSum ho L L.length).toNat / Nat.gcd (lossSum ho L L.length).toNat L.length = p at *
  generalize L.length / Nat.gcd (lossSum ho L L.length).toNat L.length = q at *
  simp -dsimp -implicitDefEqProofs (disch := omega) [go_sem, -List.getD_eq_getElem?_getD, ite_yes]
  refine ACall.of (I _ _ _ (Sl.of rfl)) ?_
  simp -dsimp -implicitDefEqProofs (disch := omega) [go_sem, -List.getD_eq_getElem?_getD, ite_yes]
  refine ACall.of (S _ _ _ (Sl.of rfl)) ?_
  simp -dsimp -implicitDefEqProofs (disch := omega) [go_sem, -List.getD_eq_getElem?_getD, ite_yes]
  refine ACall.of (W _ _ _ (Sl.of rfl)) ?_
  simp -dsimp -implicitDefEqProofs (disch := omega) [go_sem, -List.getD_eq_getElem?_getD, ite_yes]
  exact fin_flat rfl rfl
end Go.Proofs.Yteojpgmclplggaa
/- The program's own facts for the rows. -/
namespace Go.Proofs.Yteojpgmclplggaa
theorem own_ : ownKnob Try.prog.godebug = none := by kernel_rfl
theorem laidOut_ : laidOutB Try.prog = true := by kernel_rfl
end Go.Proofs.Yteojpgmclplggaa
/- An argument that is a list of bytes. -/
namespace Go.Proofs.Yteojpgmclplggaa
open Go.Am Go.RowKit Go.ChangeShapes Go.WideShapes Go.Deep
set_option linter.unusedVariables false
set_option maxRecDepth 100000
abbrev By := Fin 256
def byE (b : By) : List Value := [.int .u8 (b.val : Int)]
theorem open_By {H : Type} {enc : TypeId × Value → H} {W : World} {v : Value} {d : DataW H} {ps : List MemPlace} {b0 : Nat} (hv : Value.okWide Try.prog W .any b0 22 v) (h : DataW.Trod enc Try.prog W 0 (fun _ => true) true 22 v d ps) :
    v = .slice none 0 0 ∨ ∃ (a : Addr) (len cap : Nat), v = .slice (some a) len cap ∧ len ≤ cap ∧ cap ≤ maxLen ∧ ∀ i, i < cap → ∃ r : By, ∀ j c, (byE r)[j]? = some c → W.cell? (a.add (i * 1 + j)) = some c := by
  obtain ⟨fuel, hf⟩ := h
  obtain ⟨a0, len0, cap0, rfl⟩ := okWide_slice Try.underlying22 hv
  have hf : DataW.trod enc Try.prog W 0 (fun _ => true) true fuel 22 [.slice a0 len0 cap0] = some (d, ps) := hf
  rcases open_slice Try.underlying22 hf with ⟨h1, _⟩ | ⟨a, len, cap, m, n, D, Pl, h1, hb, h2, h3, h4, _, hi⟩
  · cases h1; exact .inl rfl
  · cases h1
    refine .inr ⟨a, _, _, rfl, h2, h3, fun i him => ?_⟩
    have him' : i < m := by rw [h4]; simpa using him
    obtain ⟨cs', hc, ht'⟩ := hi i him'
    rw [show Try.prog.cellsOf 5 = 1 by kernel_rfl] at hc
    obtain ⟨_, hcl, hat⟩ := World.cells?_some hc
    obtain ⟨v, rfl⟩ : ∃ v, cs' = [v] := List.length_eq_one_iff.1 hcl
    obtain ⟨n0, e0, _, wf⟩ := DataW.trod_int Try.underlying5 ht'
    cases e0
    have r : 0 ≤ n0 ∧ n0 ≤ 255 := by
      simp only [Lit.wf, Bool.and_eq_true, decide_eq_true_eq] at wf
      exact wf
    refine ⟨⟨n0.toNat, by omega⟩, fun j c hj => ?_⟩
    have e : ((n0.toNat : Nat) : Int) = n0 := by omega
    match j, hj with
    | 0, hj =>
      simp only [byE, e] at hj
      cases hj
      have := hat 0 (by omega)
      simpa [Addr.add] using this
theorem bytes_of {H : Heap} {t : Nat} {l : List By} (hl : l.length ≤ 9223372036854775807) (hS : Sl byE H t l) : Bytes H t l.length := by
  refine ⟨hS.lt, hl, fun k hk => ⟨((l.getD k 0).val : Int), by omega, by have := (l.getD k 0).isLt; omega, ?_⟩⟩
  have := hS.cells (s := 1) (fun _ => rfl) (0 : By) k hk
  rw [Nat.mul_one] at this
  exact this
end Go.Proofs.Yteojpgmclplggaa
