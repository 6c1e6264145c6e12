/- GreedyAssignment: the reference's side, and the law. -/
import Derived.Test.YthajahknincjjaaGreedy2
namespace Go.Proofs.Ythajahknincjjaa
open Go.Am
set_option linter.unusedVariables false
set_option linter.unusedSimpArgs false
set_option maxRecDepth 100000
set_option maxHeartbeats 4000000

theorem take_nm (L : List Int) (k : Nat) : List.take k (L.flatMap nmE) = (L.take k).flatMap nmE := by
  induction L generalizing k with
  | nil => simp
  | cons a L ih => cases k with
    | zero => rfl
    | succ k => rw [List.take_succ_cons, List.flatMap_cons, List.flatMap_cons, ← ih]; rfl
theorem drop_nm (L : List Int) (k : Nat) : List.drop k (L.flatMap nmE) = (L.drop k).flatMap nmE := by
  induction L generalizing k with
  | nil => simp
  | cons a L ih => cases k with
    | zero => rfl
    | succ k => rw [List.drop_succ_cons, List.flatMap_cons, ← ih]; rfl
theorem sGreedy_bad (l : List Tk) (crews : Int) (hl : l.length ≤ 1048577) (c : Nat) (H : Heap) (t : Nat) (hS : Sl tkE H t l) (hb : askOk l crews = false) :
    AFunC Try.prog 12 [.slice (some ⟨t, 0, none⟩) l.length c, .int .i64 crews] H (.tuple #[.slice (some ⟨H.length, 0, none⟩) 0 0, .bool false]) (H ++ [some ⟨[], true, 3, 1⟩]) := by
  refine AFunC.of_body Try.func12 (by kernel_rfl) rfl (by kernel_rfl) (by simp [Try.ntmps12]) ?_
  have ht := hS.lt
  simp -dsimp -implicitDefEqProofs (disch := omega) [go_sem, -List.getD_eq_getElem?_getD, ite_yes, ht]
  refine ACall.of (l22Asked_A l crews hl c _ t hS) ?_
  simp -dsimp -implicitDefEqProofs (disch := omega) [go_sem, -List.getD_eq_getElem?_getD, ite_yes, hb]
  refine fin_list [some 0] rfl ?_ (by simp -dsimp -implicitDefEqProofs (disch := omega) [go_sem, -List.getD_eq_getElem?_getD, ite_yes])
  simp -dsimp -implicitDefEqProofs (disch := omega) [go_sem, -List.getD_eq_getElem?_getD, ite_yes]
  exact .inl ⟨rfl, rfl⟩
theorem sGreedy_good (l : List Tk) (crews : Int) (hl : l.length ≤ 1048577) (c : Nat) (H : Heap) (t : Nat) (hS : Sl tkE H t l) (hg : askOk l crews = true) :
    AFunC Try.prog 12 [.slice (some ⟨t, 0, none⟩) l.length c, .int .i64 crews] H (.tuple #[.slice (some ⟨H.length, 0, none⟩) (grTo l crews l.length).1.length 0, .bool true]) (H ++ [some ⟨(grTo l crews l.length).1.flatMap nmE, true, 3, 1⟩]) := by
  refine AFunC.of_body Try.func12 (by kernel_rfl) rfl (by kernel_rfl) (by simp [Try.ntmps12]) ?_
  have ht := hS.lt
  have hgt : goodT l = true ∧ 1 ≤ crews ∧ crews ≤ 3 := by
    have := hg
    simp only [askOk, inB, Bool.and_eq_true, decide_eq_true_eq] at this
    exact this
  have hl7 := (goodT_at hgt.1).1
  simp -dsimp -implicitDefEqProofs (disch := omega) [go_sem, -List.getD_eq_getElem?_getD, ite_yes, ht]
  refine ACall.of (l22Asked_A l crews hl c _ t hS) ?_
  simp -dsimp -implicitDefEqProofs (disch := omega) [go_sem, -List.getD_eq_getElem?_getD, ite_yes, hg, ht]
  refine ALoop.intro (ι := Nat) (fun i => i ≤ l.length) (fun i => [(0, .slice (some ⟨t, 0, none⟩) l.length c), (1, .int .i64 crews), (6, .slice (some ⟨H.length, 0, none⟩) i 0), (7, .int .i64 i)])
    (fun i => H ++ [some ⟨(ordG l i).flatMap nmE, true, 3, 1⟩]) (fun i => l.length - i) 0 (by omega) ?_ ?_
  · refine weakS_mk [some 0] rfl ?_ (by simp -dsimp -implicitDefEqProofs (disch := omega) [go_sem, -List.getD_eq_getElem?_getD, ite_yes, ht])
    simp -dsimp -implicitDefEqProofs (disch := omega) [go_sem, -List.getD_eq_getElem?_getD, ite_yes]
    exact .inl ⟨rfl, rfl⟩
  · intro i hi
    have hog := ordG_length l i
    have hfo : ((ordG l i).flatMap nmE).length = i := by rw [nmE_length, hog]; omega
    by_cases hlt : i < l.length
    · have hlti : (i : Int) < (l.length : Int) := by omega
      simp -dsimp -implicitDefEqProofs (disch := omega) [go_sem, -List.getD_eq_getElem?_getD, ite_yes, hlti, hlt]
      refine ALoop.intro (ι := Nat) (fun k => k ≤ i ∧ posF l (ordG l i) i i = posF l (ordG l i) i k) (fun k => [(0, .slice (some ⟨t, 0, none⟩) l.length c), (1, .int .i64 crews), (6, .slice (some ⟨H.length, 0, none⟩) i 0), (7, .int .i64 i), (8, .int .i64 k)])
        (fun k => H ++ [some ⟨(ordG l i).flatMap nmE, true, 3, 1⟩]) (fun k => k) i ⟨Nat.le_refl _, rfl⟩ ?_ ?_
      · refine weakS_mk [some 0] rfl ?_ (by simp -dsimp -implicitDefEqProofs (disch := omega) [go_sem, -List.getD_eq_getElem?_getD, ite_yes, ht])
        simp -dsimp -implicitDefEqProofs (disch := omega) [go_sem, -List.getD_eq_getElem?_getD, ite_yes]
        exact .inl ⟨rfl, nmE_flat _⟩
      rintro k ⟨hk, hpos⟩
      have hput : posF l (ordG l i) i i = k → (ordG l (i + 1)).flatMap nmE = ((ordG l i).take k).flatMap nmE ++ Value.int .i64 (i : Int) :: ((ordG l i).drop k).flatMap nmE := fun h => by
        rw [ordG, insX, hog, h, List.flatMap_append, List.flatMap_cons]; rfl
      have hnew : ∀ X, X = (ordG l (i + 1)).flatMap nmE → X.all flat = true := fun X h => h ▸ nmE_flat _
      generalize hL : ordG l i = L at *
      have e1 : (List.flatMap nmE (List.take k L)).length = k := by rw [nmE_length, List.length_take]; omega
      have e3 : (List.flatMap nmE (List.drop k L)).length = i - k := by rw [nmE_length, List.length_drop]; omega
      have e2 : List.take (i - k) (List.flatMap nmE (List.drop k L)) = List.flatMap nmE (List.drop k L) := List.take_of_length_le (by omega)
      have t1 := take_nm L k
      have t2 := drop_nm L k
      have e4 : k + 1 + (i - k) = i + 1 := by omega
      cases k with
      | zero =>
        simp only [List.drop_zero, List.take_zero, List.flatMap_nil, Nat.sub_zero, List.nil_append, Nat.zero_add] at *
        simp -dsimp -implicitDefEqProofs (disch := omega) [go_sem, -List.getD_eq_getElem?_getD, ite_yes]
        refine ADraw.quiet (by kernel_rfl) (by kernel_rfl) (by kernel_rfl) ?_
        simp -dsimp -implicitDefEqProofs (disch := omega) [go_sem, -List.getD_eq_getElem?_getD, ite_yes, ht]
        refine ADraw.any (H ++ [some ⟨L.flatMap nmE, true, 3, 1⟩]) (by kernel_rfl) (by first | exact SubH.refl | exact SubH.app | exact SubH.both (by simp [subL])) ?_
        refine AAny.takes (fuel := 6) (by kernel_rfl) (by kernel_rfl) [1, 2, 3, 5, 8, 9, 10] (by kernel_rfl) (by kernel_rfl) ?_
        simp -dsimp -implicitDefEqProofs (disch := omega) [go_sem, -List.getD_eq_getElem?_getD, ite_yes, ht, hfo, t1, t2, e1, e2, e3, e4]
        refine AAny.two 5 0 6 (by kernel_rfl) (by kernel_rfl) (by kernel_rfl) ?_ ?_
        · simp -dsimp -implicitDefEqProofs (disch := omega) [go_sem, -List.getD_eq_getElem?_getD, ite_yes, ht, hfo, t1, t2, e1, e2, e3, e4]
          first | refine AAt.of (by first | exact SubH.refl | exact SubH.app | exact SubH.both (by simp [subL])) ?_ | (refine ⟨?_, AAt.of (by first | exact SubH.refl | exact SubH.app | exact SubH.both (by simp [subL])) ?_⟩; · omega)
          refine AAny.two 4 4 6 (by kernel_rfl) (by kernel_rfl) (by kernel_rfl) ?_ ?_
          · simp -dsimp -implicitDefEqProofs (disch := omega) [go_sem, -List.getD_eq_getElem?_getD, ite_yes, ht, hfo, t1, t2, e1, e2, e3, e4]
            first | refine AAt.of (by first | exact SubH.refl | exact SubH.app | exact SubH.both (by simp [subL])) ?_ | (refine ⟨?_, AAt.of (by first | exact SubH.refl | exact SubH.app | exact SubH.both (by simp [subL])) ?_⟩; · omega)
            refine AAny.one 3 6 (by kernel_rfl) (by kernel_rfl) (by kernel_rfl) ?_
            simp -dsimp -implicitDefEqProofs (disch := omega) [go_sem, -List.getD_eq_getElem?_getD, ite_yes, ht, hfo, t1, t2, e1, e2, e3, e4]
            first | refine AAt.of (by first | exact SubH.refl | exact SubH.app | exact SubH.both (by simp [subL])) ?_ | (refine ⟨?_, AAt.of (by first | exact SubH.refl | exact SubH.app | exact SubH.both (by simp [subL])) ?_⟩; · omega)
            refine AAny.one 2 7 (by kernel_rfl) (by kernel_rfl) (by kernel_rfl) ?_
            simp -dsimp -implicitDefEqProofs (disch := omega) [go_sem, -List.getD_eq_getElem?_getD, ite_yes, ht, hfo, t1, t2, e1, e2, e3, e4]
            first | refine AAt.of (by first | exact SubH.refl | exact SubH.app | exact SubH.both (by simp [subL])) ?_ | (refine ⟨?_, AAt.of (by first | exact SubH.refl | exact SubH.app | exact SubH.both (by simp [subL])) ?_⟩; · omega)
            refine AAny.one 1 11 (by kernel_rfl) (by kernel_rfl) (by kernel_rfl) ?_
            simp -dsimp -implicitDefEqProofs (disch := omega) [go_sem, -List.getD_eq_getElem?_getD, ite_yes, ht, hfo, t1, t2, e1, e2, e3, e4]
            first | refine AAt.of (by first | exact SubH.refl | exact SubH.app | exact SubH.both (by simp [subL])) ?_ | (refine ⟨?_, AAt.of (by first | exact SubH.refl | exact SubH.app | exact SubH.both (by simp [subL])) ?_⟩; · omega)
            refine AAny.takes (fuel := 0) (by kernel_rfl) (by kernel_rfl) [12] (by kernel_rfl) (by kernel_rfl) ?_
            simp -dsimp -implicitDefEqProofs (disch := omega) [go_sem, -List.getD_eq_getElem?_getD, ite_yes, ht, hfo, t1, t2, e1, e2, e3, e4]
            refine AAny.done (by kernel_rfl) ?_
            simp -dsimp -implicitDefEqProofs (disch := omega) [go_sem, -List.getD_eq_getElem?_getD, ite_yes, ht, hfo, t1, t2, e1, e2, e3, e4]
            refine LoopEnd.of (i + 1) (by omega) (by omega) (weakS_mk [some 5] rfl ?_ (by simp -dsimp -implicitDefEqProofs (disch := omega) [go_sem, -List.getD_eq_getElem?_getD, ite_yes, ht, e4]))
            simp -dsimp -implicitDefEqProofs (disch := omega) [go_sem, -List.getD_eq_getElem?_getD, ite_yes, t1, t2, e2]
            exact .inl ⟨hput hpos, hnew _ (hput hpos).symm⟩
          · simp -dsimp -implicitDefEqProofs (disch := omega) [go_sem, -List.getD_eq_getElem?_getD, ite_yes, ht, hfo, t1, t2, e1, e2, e3, e4]
            first | refine AAt.of (by first | exact SubH.refl | exact SubH.app | exact SubH.both (by simp [subL])) ?_ | (refine ⟨?_, AAt.of (by first | exact SubH.refl | exact SubH.app | exact SubH.both (by simp [subL])) ?_⟩; · omega)
            refine AAny.one 3 4 (by kernel_rfl) (by kernel_rfl) (by kernel_rfl) ?_
            simp -dsimp -implicitDefEqProofs (disch := omega) [go_sem, -List.getD_eq_getElem?_getD, ite_yes, ht, hfo, t1, t2, e1, e2, e3, e4]
            first | refine AAt.of (by first | exact SubH.refl | exact SubH.app | exact SubH.both (by simp [subL])) ?_ | (refine ⟨?_, AAt.of (by first | exact SubH.refl | exact SubH.app | exact SubH.both (by simp [subL])) ?_⟩; · omega)
            refine AAny.one 2 7 (by kernel_rfl) (by kernel_rfl) (by kernel_rfl) ?_
            simp -dsimp -implicitDefEqProofs (disch := omega) [go_sem, -List.getD_eq_getElem?_getD, ite_yes, ht, hfo, t1, t2, e1, e2, e3, e4]
            first | refine AAt.of (by first | exact SubH.refl | exact SubH.app | exact SubH.both (by simp [subL])) ?_ | (refine ⟨?_, AAt.of (by first | exact SubH.refl | exact SubH.app | exact SubH.both (by simp [subL])) ?_⟩; · omega)
            refine AAny.one 1 11 (by kernel_rfl) (by kernel_rfl) (by kernel_rfl) ?_
            simp -dsimp -implicitDefEqProofs (disch := omega) [go_sem, -List.getD_eq_getElem?_getD, ite_yes, ht, hfo, t1, t2, e1, e2, e3, e4]
            first | refine AAt.of (by first | exact SubH.refl | exact SubH.app | exact SubH.both (by simp [subL])) ?_ | (refine ⟨?_, AAt.of (by first | exact SubH.refl | exact SubH.app | exact SubH.both (by simp [subL])) ?_⟩; · omega)
            refine AAny.takes (fuel := 0) (by kernel_rfl) (by kernel_rfl) [12] (by kernel_rfl) (by kernel_rfl) ?_
            simp -dsimp -implicitDefEqProofs (disch := omega) [go_sem, -List.getD_eq_getElem?_getD, ite_yes, ht, hfo, t1, t2, e1, e2, e3, e4]
            refine AAny.done (by kernel_rfl) ?_
            simp -dsimp -implicitDefEqProofs (disch := omega) [go_sem, -List.getD_eq_getElem?_getD, ite_yes, ht, hfo, t1, t2, e1, e2, e3, e4]
            refine LoopEnd.of (i + 1) (by omega) (by omega) (weakS_mk [some 5] rfl ?_ (by simp -dsimp -implicitDefEqProofs (disch := omega) [go_sem, -List.getD_eq_getElem?_getD, ite_yes, ht, e4]))
            simp -dsimp -implicitDefEqProofs (disch := omega) [go_sem, -List.getD_eq_getElem?_getD, ite_yes, t1, t2, e2]
            exact .inl ⟨hput hpos, hnew _ (hput hpos).symm⟩
        · simp -dsimp -implicitDefEqProofs (disch := omega) [go_sem, -List.getD_eq_getElem?_getD, ite_yes, ht, hfo, t1, t2, e1, e2, e3, e4]
          first | refine AAt.of (by first | exact SubH.refl | exact SubH.app | exact SubH.both (by simp [subL])) ?_ | (refine ⟨?_, AAt.of (by first | exact SubH.refl | exact SubH.app | exact SubH.both (by simp [subL])) ?_⟩; · omega)
          refine AAny.one 4 0 (by kernel_rfl) (by kernel_rfl) (by kernel_rfl) ?_
          simp -dsimp -implicitDefEqProofs (disch := omega) [go_sem, -List.getD_eq_getElem?_getD, ite_yes, ht, hfo, t1, t2, e1, e2, e3, e4]
          first | refine AAt.of (by first | exact SubH.refl | exact SubH.app | exact SubH.both (by simp [subL])) ?_ | (refine ⟨?_, AAt.of (by first | exact SubH.refl | exact SubH.app | exact SubH.both (by simp [subL])) ?_⟩; · omega)
          refine AAny.one 3 4 (by kernel_rfl) (by kernel_rfl) (by kernel_rfl) ?_
          simp -dsimp -implicitDefEqProofs (disch := omega) [go_sem, -List.getD_eq_getElem?_getD, ite_yes, ht, hfo, t1, t2, e1, e2, e3, e4]
          first | refine AAt.of (by first | exact SubH.refl | exact SubH.app | exact SubH.both (by simp [subL])) ?_ | (refine ⟨?_, AAt.of (by first | exact SubH.refl | exact SubH.app | exact SubH.both (by simp [subL])) ?_⟩; · omega)
          refine AAny.one 2 7 (by kernel_rfl) (by kernel_rfl) (by kernel_rfl) ?_
          simp -dsimp -implicitDefEqProofs (disch := omega) [go_sem, -List.getD_eq_getElem?_getD, ite_yes, ht, hfo, t1, t2, e1, e2, e3, e4]
          first | refine AAt.of (by first | exact SubH.refl | exact SubH.app | exact SubH.both (by simp [subL])) ?_ | (refine ⟨?_, AAt.of (by first | exact SubH.refl | exact SubH.app | exact SubH.both (by simp [subL])) ?_⟩; · omega)
          refine AAny.one 1 11 (by kernel_rfl) (by kernel_rfl) (by kernel_rfl) ?_
          simp -dsimp -implicitDefEqProofs (disch := omega) [go_sem, -List.getD_eq_getElem?_getD, ite_yes, ht, hfo, t1, t2, e1, e2, e3, e4]
          first | refine AAt.of (by first | exact SubH.refl | exact SubH.app | exact SubH.both (by simp [subL])) ?_ | (refine ⟨?_, AAt.of (by first | exact SubH.refl | exact SubH.app | exact SubH.both (by simp [subL])) ?_⟩; · omega)
          refine AAny.takes (fuel := 0) (by kernel_rfl) (by kernel_rfl) [12] (by kernel_rfl) (by kernel_rfl) ?_
          simp -dsimp -implicitDefEqProofs (disch := omega) [go_sem, -List.getD_eq_getElem?_getD, ite_yes, ht, hfo, t1, t2, e1, e2, e3, e4]
          refine AAny.done (by kernel_rfl) ?_
          simp -dsimp -implicitDefEqProofs (disch := omega) [go_sem, -List.getD_eq_getElem?_getD, ite_yes, ht, hfo, t1, t2, e1, e2, e3, e4]
          refine LoopEnd.of (i + 1) (by omega) (by omega) (weakS_mk [some 5] rfl ?_ (by simp -dsimp -implicitDefEqProofs (disch := omega) [go_sem, -List.getD_eq_getElem?_getD, ite_yes, ht, e4]))
          simp -dsimp -implicitDefEqProofs (disch := omega) [go_sem, -List.getD_eq_getElem?_getD, ite_yes, t1, t2, e2]
          exact .inl ⟨hput hpos, hnew _ (hput hpos).symm⟩
      | succ k =>
        have hk1 : k < L.length := by omega
        obtain ⟨y, hy, hyl⟩ := ordG_mem l i (L.getD k 0) (by rw [hL, List.getD_eq_getElem?_getD, List.getElem?_eq_getElem hk1]; exact List.getElem_mem hk1)
        have c1 := nm_cell L hk1
        rw [hy] at c1
        have c2 := hS.cell (s := 3) (fun _ => rfl) (0, 0, 0) y 2 (by omega) (by omega)
        have c3 := hS.cell (s := 3) (fun _ => rfl) (0, 0, 0) i 2 hlt (by omega)
        simp only [tkE] at c2 c3
        have hyi : (y : Int) < (l.length : Int) := by omega
        have hyl2 : y < l.length := by omega
        have hki : k < i := by omega
        have hp : posF l L i (k + 1) = if (l.getD y (0, 0, 0)).2.2 < (l.getD i (0, 0, 0)).2.2 then posF l L i k else k + 1 := by rw [posF, hy]; rfl
        simp -dsimp -implicitDefEqProofs (disch := omega) [go_sem, -List.getD_eq_getElem?_getD, ite_yes]
        refine ADraw.quiet (by kernel_rfl) (by kernel_rfl) (by kernel_rfl) ?_
        simp -dsimp -implicitDefEqProofs (disch := omega) [go_sem, -List.getD_eq_getElem?_getD, ite_yes, ht, hki, hfo, c1, c2, c3, hyi, hyl2, hlti, hlt]
        refine AIf.of (fun h => ?_) (fun h => ?_)
        · rw [if_pos (of_decide_eq_true h)] at hp
          simp -dsimp -implicitDefEqProofs (disch := omega) [go_sem, -List.getD_eq_getElem?_getD, ite_yes, ht]
          refine LoopEnd.of k ⟨by omega, by rw [hpos, hp]⟩ (by omega) (weakS_mk [some 0] rfl ?_ (by simp -dsimp -implicitDefEqProofs (disch := omega) [go_sem, -List.getD_eq_getElem?_getD, ite_yes, ht]))
          simp -dsimp -implicitDefEqProofs (disch := omega) [go_sem, -List.getD_eq_getElem?_getD, ite_yes]
          exact .inl ⟨rfl, nmE_flat _⟩
        · rw [if_neg (of_decide_eq_false h)] at hp
          rw [hp] at hpos
          simp -dsimp -implicitDefEqProofs (disch := omega) [go_sem, -List.getD_eq_getElem?_getD, ite_yes, ht]
          refine ADraw.any (H ++ [some ⟨L.flatMap nmE, true, 3, 1⟩]) (by kernel_rfl) (by first | exact SubH.refl | exact SubH.app | exact SubH.both (by simp [subL])) ?_
          refine AAny.takes (fuel := 6) (by kernel_rfl) (by kernel_rfl) [1, 2, 3, 5, 8, 9, 10] (by kernel_rfl) (by kernel_rfl) ?_
          simp -dsimp -implicitDefEqProofs (disch := omega) [go_sem, -List.getD_eq_getElem?_getD, ite_yes, ht, hfo, t1, t2, e1, e2, e3, e4]
          refine AAny.two 5 0 6 (by kernel_rfl) (by kernel_rfl) (by kernel_rfl) ?_ ?_
          · simp -dsimp -implicitDefEqProofs (disch := omega) [go_sem, -List.getD_eq_getElem?_getD, ite_yes, ht, hfo, t1, t2, e1, e2, e3, e4]
            first | refine AAt.of (by first | exact SubH.refl | exact SubH.app | exact SubH.both (by simp [subL])) ?_ | (refine ⟨?_, AAt.of (by first | exact SubH.refl | exact SubH.app | exact SubH.both (by simp [subL])) ?_⟩; · omega)
            refine AAny.two 4 4 6 (by kernel_rfl) (by kernel_rfl) (by kernel_rfl) ?_ ?_
            · simp -dsimp -implicitDefEqProofs (disch := omega) [go_sem, -List.getD_eq_getElem?_getD, ite_yes, ht, hfo, t1, t2, e1, e2, e3, e4]
              first | refine AAt.of (by first | exact SubH.refl | exact SubH.app | exact SubH.both (by simp [subL])) ?_ | (refine ⟨?_, AAt.of (by first | exact SubH.refl | exact SubH.app | exact SubH.both (by simp [subL])) ?_⟩; · omega)
              refine AAny.one 3 6 (by kernel_rfl) (by kernel_rfl) (by kernel_rfl) ?_
              simp -dsimp -implicitDefEqProofs (disch := omega) [go_sem, -List.getD_eq_getElem?_getD, ite_yes, ht, hfo, t1, t2, e1, e2, e3, e4]
              first | refine AAt.of (by first | exact SubH.refl | exact SubH.app | exact SubH.both (by simp [subL])) ?_ | (refine ⟨?_, AAt.of (by first | exact SubH.refl | exact SubH.app | exact SubH.both (by simp [subL])) ?_⟩; · omega)
              refine AAny.one 2 7 (by kernel_rfl) (by kernel_rfl) (by kernel_rfl) ?_
              simp -dsimp -implicitDefEqProofs (disch := omega) [go_sem, -List.getD_eq_getElem?_getD, ite_yes, ht, hfo, t1, t2, e1, e2, e3, e4]
              first | refine AAt.of (by first | exact SubH.refl | exact SubH.app | exact SubH.both (by simp [subL])) ?_ | (refine ⟨?_, AAt.of (by first | exact SubH.refl | exact SubH.app | exact SubH.both (by simp [subL])) ?_⟩; · omega)
              refine AAny.one 1 11 (by kernel_rfl) (by kernel_rfl) (by kernel_rfl) ?_
              simp -dsimp -implicitDefEqProofs (disch := omega) [go_sem, -List.getD_eq_getElem?_getD, ite_yes, ht, hfo, t1, t2, e1, e2, e3, e4]
              first | refine AAt.of (by first | exact SubH.refl | exact SubH.app | exact SubH.both (by simp [subL])) ?_ | (refine ⟨?_, AAt.of (by first | exact SubH.refl | exact SubH.app | exact SubH.both (by simp [subL])) ?_⟩; · omega)
              refine AAny.takes (fuel := 0) (by kernel_rfl) (by kernel_rfl) [12] (by kernel_rfl) (by kernel_rfl) ?_
              simp -dsimp -implicitDefEqProofs (disch := omega) [go_sem, -List.getD_eq_getElem?_getD, ite_yes, ht, hfo, t1, t2, e1, e2, e3, e4]
              refine AAny.done (by kernel_rfl) ?_
              simp -dsimp -implicitDefEqProofs (disch := omega) [go_sem, -List.getD_eq_getElem?_getD, ite_yes, ht, hfo, t1, t2, e1, e2, e3, e4]
              refine LoopEnd.of (i + 1) (by omega) (by omega) (weakS_mk [some 5] rfl ?_ (by simp -dsimp -implicitDefEqProofs (disch := omega) [go_sem, -List.getD_eq_getElem?_getD, ite_yes, ht, e4]))
              simp -dsimp -implicitDefEqProofs (disch := omega) [go_sem, -List.getD_eq_getElem?_getD, ite_yes, t1, t2, e2]
              exact .inl ⟨hput hpos, hnew _ (hput hpos).symm⟩
            · simp -dsimp -implicitDefEqProofs (disch := omega) [go_sem, -List.getD_eq_getElem?_getD, ite_yes, ht, hfo, t1, t2, e1, e2, e3, e4]
              first | refine AAt.of (by first | exact SubH.refl | exact SubH.app | exact SubH.both (by simp [subL])) ?_ | (refine ⟨?_, AAt.of (by first | exact SubH.refl | exact SubH.app | exact SubH.both (by simp [subL])) ?_⟩; · omega)
              refine AAny.one 3 4 (by kernel_rfl) (by kernel_rfl) (by kernel_rfl) ?_
              simp -dsimp -implicitDefEqProofs (disch := omega) [go_sem, -List.getD_eq_getElem?_getD, ite_yes, ht, hfo, t1, t2, e1, e2, e3, e4]
              first | refine AAt.of (by first | exact SubH.refl | exact SubH.app | exact SubH.both (by simp [subL])) ?_ | (refine ⟨?_, AAt.of (by first | exact SubH.refl | exact SubH.app | exact SubH.both (by simp [subL])) ?_⟩; · omega)
              refine AAny.one 2 7 (by kernel_rfl) (by kernel_rfl) (by kernel_rfl) ?_
              simp -dsimp -implicitDefEqProofs (disch := omega) [go_sem, -List.getD_eq_getElem?_getD, ite_yes, ht, hfo, t1, t2, e1, e2, e3, e4]
              first | refine AAt.of (by first | exact SubH.refl | exact SubH.app | exact SubH.both (by simp [subL])) ?_ | (refine ⟨?_, AAt.of (by first | exact SubH.refl | exact SubH.app | exact SubH.both (by simp [subL])) ?_⟩; · omega)
              refine AAny.one 1 11 (by kernel_rfl) (by kernel_rfl) (by kernel_rfl) ?_
              simp -dsimp -implicitDefEqProofs (disch := omega) [go_sem, -List.getD_eq_getElem?_getD, ite_yes, ht, hfo, t1, t2, e1, e2, e3, e4]
              first | refine AAt.of (by first | exact SubH.refl | exact SubH.app | exact SubH.both (by simp [subL])) ?_ | (refine ⟨?_, AAt.of (by first | exact SubH.refl | exact SubH.app | exact SubH.both (by simp [subL])) ?_⟩; · omega)
              refine AAny.takes (fuel := 0) (by kernel_rfl) (by kernel_rfl) [12] (by kernel_rfl) (by kernel_rfl) ?_
              simp -dsimp -implicitDefEqProofs (disch := omega) [go_sem, -List.getD_eq_getElem?_getD, ite_yes, ht, hfo, t1, t2, e1, e2, e3, e4]
              refine AAny.done (by kernel_rfl) ?_
              simp -dsimp -implicitDefEqProofs (disch := omega) [go_sem, -List.getD_eq_getElem?_getD, ite_yes, ht, hfo, t1, t2, e1, e2, e3, e4]
              refine LoopEnd.of (i + 1) (by omega) (by omega) (weakS_mk [some 5] rfl ?_ (by simp -dsimp -implicitDefEqProofs (disch := omega) [go_sem, -List.getD_eq_getElem?_getD, ite_yes, ht, e4]))
              simp -dsimp -implicitDefEqProofs (disch := omega) [go_sem, -List.getD_eq_getElem?_getD, ite_yes, t1, t2, e2]
              exact .inl ⟨hput hpos, hnew _ (hput hpos).symm⟩
          · simp -dsimp -implicitDefEqProofs (disch := omega) [go_sem, -List.getD_eq_getElem?_getD, ite_yes, ht, hfo, t1, t2, e1, e2, e3, e4]
            first | refine AAt.of (by first | exact SubH.refl | exact SubH.app | exact SubH.both (by simp [subL])) ?_ | (refine ⟨?_, AAt.of (by first | exact SubH.refl | exact SubH.app | exact SubH.both (by simp [subL])) ?_⟩; · omega)
            refine AAny.one 4 0 (by kernel_rfl) (by kernel_rfl) (by kernel_rfl) ?_
            simp -dsimp -implicitDefEqProofs (disch := omega) [go_sem, -List.getD_eq_getElem?_getD, ite_yes, ht, hfo, t1, t2, e1, e2, e3, e4]
            first | refine AAt.of (by first | exact SubH.refl | exact SubH.app | exact SubH.both (by simp [subL])) ?_ | (refine ⟨?_, AAt.of (by first | exact SubH.refl | exact SubH.app | exact SubH.both (by simp [subL])) ?_⟩; · omega)
            refine AAny.one 3 4 (by kernel_rfl) (by kernel_rfl) (by kernel_rfl) ?_
            simp -dsimp -implicitDefEqProofs (disch := omega) [go_sem, -List.getD_eq_getElem?_getD, ite_yes, ht, hfo, t1, t2, e1, e2, e3, e4]
            first | refine AAt.of (by first | exact SubH.refl | exact SubH.app | exact SubH.both (by simp [subL])) ?_ | (refine ⟨?_, AAt.of (by first | exact SubH.refl | exact SubH.app | exact SubH.both (by simp [subL])) ?_⟩; · omega)
            refine AAny.one 2 7 (by kernel_rfl) (by kernel_rfl) (by kernel_rfl) ?_
            simp -dsimp -implicitDefEqProofs (disch := omega) [go_sem, -List.getD_eq_getElem?_getD, ite_yes, ht, hfo, t1, t2, e1, e2, e3, e4]
            first | refine AAt.of (by first | exact SubH.refl | exact SubH.app | exact SubH.both (by simp [subL])) ?_ | (refine ⟨?_, AAt.of (by first | exact SubH.refl | exact SubH.app | exact SubH.both (by simp [subL])) ?_⟩; · omega)
            refine AAny.one 1 11 (by kernel_rfl) (by kernel_rfl) (by kernel_rfl) ?_
            simp -dsimp -implicitDefEqProofs (disch := omega) [go_sem, -List.getD_eq_getElem?_getD, ite_yes, ht, hfo, t1, t2, e1, e2, e3, e4]
            first | refine AAt.of (by first | exact SubH.refl | exact SubH.app | exact SubH.both (by simp [subL])) ?_ | (refine ⟨?_, AAt.of (by first | exact SubH.refl | exact SubH.app | exact SubH.both (by simp [subL])) ?_⟩; · omega)
            refine AAny.takes (fuel := 0) (by kernel_rfl) (by kernel_rfl) [12] (by kernel_rfl) (by kernel_rfl) ?_
            simp -dsimp -implicitDefEqProofs (disch := omega) [go_sem, -List.getD_eq_getElem?_getD, ite_yes, ht, hfo, t1, t2, e1, e2, e3, e4]
            refine AAny.done (by kernel_rfl) ?_
            simp -dsimp -implicitDefEqProofs (disch := omega) [go_sem, -List.getD_eq_getElem?_getD, ite_yes, ht, hfo, t1, t2, e1, e2, e3, e4]
            refine LoopEnd.of (i + 1) (by omega) (by omega) (weakS_mk [some 5] rfl ?_ (by simp -dsimp -implicitDefEqProofs (disch := omega) [go_sem, -List.getD_eq_getElem?_getD, ite_yes, ht, e4]))
            simp -dsimp -implicitDefEqProofs (disch := omega) [go_sem, -List.getD_eq_getElem?_getD, ite_yes, t1, t2, e2]
            exact .inl ⟨hput hpos, hnew _ (hput hpos).symm⟩
    · obtain rfl : i = l.length := by omega
      simp -dsimp -implicitDefEqProofs (disch := omega) [go_sem, -List.getD_eq_getElem?_getD, ite_yes]
      refine ADraw.mid [(0, .slice (some ⟨t, 0, none⟩) l.length c), (1, .int .i64 crews), (6, .slice (some ⟨H.length, 0, none⟩) l.length 0), (9, .slice (some ⟨H.length + 1, 0, none⟩) l.length l.length), (10, .slice (some ⟨H.length + 2, 0, none⟩) crews.toNat crews.toNat)] (H ++ [some ⟨(ordG l l.length).flatMap nmE, true, 3, 1⟩, some ⟨List.replicate l.length (.int .i64 0), true, 3, 1⟩, some ⟨List.replicate crews.toNat (.int .i64 0), true, 3, 1⟩]) ?_ ?_
      · skip
        refine ADraw.any H (by kernel_rfl) (by first | exact SubH.refl | exact SubH.app | exact SubH.both (by simp [subL])) ?_
        refine AAny.takes (fuel := 4) (by kernel_rfl) (by kernel_rfl) [0, 1, 3] (by kernel_rfl) (by kernel_rfl) ?_
        simp -dsimp -implicitDefEqProofs (disch := omega) [go_sem, -List.getD_eq_getElem?_getD, ite_yes, ht]
        refine AAny.two 3 2 4 (by kernel_rfl) (by kernel_rfl) (by kernel_rfl) ?_ ?_
        · simp -dsimp -implicitDefEqProofs (disch := omega) [go_sem, -List.getD_eq_getElem?_getD, ite_yes, ht]
          first | refine AAt.of (by first | exact SubH.refl | exact SubH.app | exact SubH.both (by simp [subL])) ?_ | (refine ⟨?_, AAt.of (by first | exact SubH.refl | exact SubH.app | exact SubH.both (by simp [subL])) ?_⟩; · omega)
          refine AAny.takes (fuel := 2) (by kernel_rfl) (by kernel_rfl) [5] (by kernel_rfl) (by kernel_rfl) ?_
          simp -dsimp -implicitDefEqProofs (disch := omega) [go_sem, -List.getD_eq_getElem?_getD, ite_yes, ht]
          refine AAny.one 1 4 (by kernel_rfl) (by kernel_rfl) (by kernel_rfl) ?_
          simp -dsimp -implicitDefEqProofs (disch := omega) [go_sem, -List.getD_eq_getElem?_getD, ite_yes, ht]
          first | refine AAt.of (by first | exact SubH.refl | exact SubH.app | exact SubH.both (by simp [subL])) ?_ | (refine ⟨?_, AAt.of (by first | exact SubH.refl | exact SubH.app | exact SubH.both (by simp [subL])) ?_⟩; · omega)
          refine AAny.takes (fuel := 0) (by kernel_rfl) (by kernel_rfl) [6] (by kernel_rfl) (by kernel_rfl) ?_
          simp -dsimp -implicitDefEqProofs (disch := omega) [go_sem, -List.getD_eq_getElem?_getD, ite_yes, ht]
          refine AAny.done (by kernel_rfl) ?_
          simp -dsimp -implicitDefEqProofs (disch := omega) [go_sem, -List.getD_eq_getElem?_getD, ite_yes, ht]
          first | (refine ⟨weakS_mk [some 0, some 1, some 2] rfl ?_ ?_⟩; (· simp -dsimp -implicitDefEqProofs (disch := omega) [go_sem, -List.getD_eq_getElem?_getD, ite_yes]; refine ⟨.inl ⟨rfl, nmE_flat _⟩, .inl ⟨rfl, grN_flat _⟩, .inl ⟨rfl, grN_flat _⟩⟩); (· simp -dsimp -implicitDefEqProofs (disch := omega) [go_sem, -List.getD_eq_getElem?_getD, ite_yes, ht])) | (refine ⟨weakS_mk [some 0, some 2, some 1] rfl ?_ ?_⟩; (· simp -dsimp -implicitDefEqProofs (disch := omega) [go_sem, -List.getD_eq_getElem?_getD, ite_yes]; refine ⟨.inl ⟨rfl, nmE_flat _⟩, .inl ⟨rfl, grN_flat _⟩, .inl ⟨rfl, grN_flat _⟩⟩); (· simp -dsimp -implicitDefEqProofs (disch := omega) [go_sem, -List.getD_eq_getElem?_getD, ite_yes, ht]))
        · simp -dsimp -implicitDefEqProofs (disch := omega) [go_sem, -List.getD_eq_getElem?_getD, ite_yes, ht]
          first | refine AAt.of (by first | exact SubH.refl | exact SubH.app | exact SubH.both (by simp [subL])) ?_ | (refine ⟨?_, AAt.of (by first | exact SubH.refl | exact SubH.app | exact SubH.both (by simp [subL])) ?_⟩; · omega)
          refine AAny.one 2 2 (by kernel_rfl) (by kernel_rfl) (by kernel_rfl) ?_
          simp -dsimp -implicitDefEqProofs (disch := omega) [go_sem, -List.getD_eq_getElem?_getD, ite_yes, ht]
          first | refine AAt.of (by first | exact SubH.refl | exact SubH.app | exact SubH.both (by simp [subL])) ?_ | (refine ⟨?_, AAt.of (by first | exact SubH.refl | exact SubH.app | exact SubH.both (by simp [subL])) ?_⟩; · omega)
          refine AAny.takes (fuel := 0) (by kernel_rfl) (by kernel_rfl) [5, 6] (by kernel_rfl) (by kernel_rfl) ?_
          simp -dsimp -implicitDefEqProofs (disch := omega) [go_sem, -List.getD_eq_getElem?_getD, ite_yes, ht]
          refine AAny.done (by kernel_rfl) ?_
          simp -dsimp -implicitDefEqProofs (disch := omega) [go_sem, -List.getD_eq_getElem?_getD, ite_yes, ht]
          first | (refine ⟨weakS_mk [some 0, some 1, some 2] rfl ?_ ?_⟩; (· simp -dsimp -implicitDefEqProofs (disch := omega) [go_sem, -List.getD_eq_getElem?_getD, ite_yes]; refine ⟨.inl ⟨rfl, nmE_flat _⟩, .inl ⟨rfl, grN_flat _⟩, .inl ⟨rfl, grN_flat _⟩⟩); (· simp -dsimp -implicitDefEqProofs (disch := omega) [go_sem, -List.getD_eq_getElem?_getD, ite_yes, ht])) | (refine ⟨weakS_mk [some 0, some 2, some 1] rfl ?_ ?_⟩; (· simp -dsimp -implicitDefEqProofs (disch := omega) [go_sem, -List.getD_eq_getElem?_getD, ite_yes]; refine ⟨.inl ⟨rfl, nmE_flat _⟩, .inl ⟨rfl, grN_flat _⟩, .inl ⟨rfl, grN_flat _⟩⟩); (· simp -dsimp -implicitDefEqProofs (disch := omega) [go_sem, -List.getD_eq_getElem?_getD, ite_yes, ht]))
      simp -dsimp -implicitDefEqProofs (disch := omega) [go_sem, -List.getD_eq_getElem?_getD, ite_yes]
      refine ALoop.intro (ι := Nat) (fun j => j ≤ l.length) (fun j => [(0, .slice (some ⟨t, 0, none⟩) l.length c), (1, .int .i64 crews), (6, .slice (some ⟨H.length, 0, none⟩) l.length 0), (9, .slice (some ⟨H.length + 1, 0, none⟩) l.length l.length), (10, .slice (some ⟨H.length + 2, 0, none⟩) crews.toNat crews.toNat), (11, .int .i64 j)])
        (fun j => H ++ [some ⟨(ordG l l.length).flatMap nmE, true, 3, 1⟩, some ⟨(grTo l crews j).1.flatMap nmE, true, 3, 1⟩, some ⟨(grTo l crews j).2.flatMap nmE, true, 3, 1⟩]) (fun j => l.length - j) 0 (by omega) ?_ ?_
      · rw [rep_zero, rep_zero]
        refine weakS_mk [some 0, some 1, some 2] rfl ?_ (by simp -dsimp -implicitDefEqProofs (disch := omega) [go_sem, -List.getD_eq_getElem?_getD, ite_yes, ht])
        simp -dsimp -implicitDefEqProofs (disch := omega) [go_sem, -List.getD_eq_getElem?_getD, ite_yes]
        exact ⟨.inl ⟨rfl, nmE_flat _⟩, .inl ⟨rfl, nmE_flat _⟩, .inl ⟨rfl, nmE_flat _⟩⟩
      intro j hj
      obtain ⟨gl1, gl2⟩ := grTo_length l crews j
      by_cases hlt : j < l.length
      rotate_left
      · obtain rfl : j = l.length := by omega
        simp -dsimp -implicitDefEqProofs (disch := omega) [go_sem, -List.getD_eq_getElem?_getD, ite_yes, hlt]
        refine fin_list [some 1] rfl ?_ (by simp -dsimp -implicitDefEqProofs (disch := omega) [go_sem, -List.getD_eq_getElem?_getD, ite_yes, gl1])
        simp -dsimp -implicitDefEqProofs (disch := omega) [go_sem, -List.getD_eq_getElem?_getD, ite_yes]
        exact .inl ⟨rfl, nmE_flat _⟩
      have hjo : j < (ordG l l.length).length := by omega
      have c1 := nm_cell (ordG l l.length) hjo
      obtain ⟨y, hy, hyl⟩ := ordG_mem l l.length ((ordG l l.length).getD j 0) (by rw [List.getD_eq_getElem?_getD, List.getElem?_eq_getElem hjo]; exact List.getElem_mem hjo)
      have e : grTo l crews (j + 1) = ((grTo l crews j).1.set ((ordG l l.length).getD j 0).toNat (am (grTo l crews j).2), (grTo l crews j).2.set (am (grTo l crews j).2) ((grTo l crews j).2.getD (am (grTo l crews j).2) 0 + mi l ((ordG l l.length).getD j 0))) := rfl
      have hrg := grTo_rng hgt.1 crews j (by omega)
      rw [hy] at e c1
      rw [Int.toNat_natCast] at e
      have hmi := (goodT_at hgt.1).2 y hyl
      have hmv : mi l (y : Int) = (l.getD y (0, 0, 0)).2.2 := by unfold mi; rw [Int.toNat_natCast]
      rw [hmv] at e
      have c2 := hS.cell (s := 3) (fun _ => rfl) (0, 0, 0) y 2 hyl (by omega)
      simp only [tkE] at c2
      generalize hst1 : (grTo l crews j).1 = so at *
      generalize hst2 : (grTo l crews j).2 = sl at *
      have hsl0 : 0 < sl.length := by omega
      have hal := am_lt hsl0
      have hfs : (sl.flatMap nmE).length = crews.toNat := by rw [nmE_length, gl2]; omega
      have hfu : (so.flatMap nmE).length = l.length := by rw [nmE_length, gl1]; omega
      have s1 := nm_set so (am sl : Int) (q := y) (by omega)
      have s2 := nm_set sl (sl.getD (am sl) 0 + (l.getD y (0, 0, 0)).2.2) hal
      have c3 := nm_cell sl hal
      have hrq := hrg (am sl)
      have hyi : (y : Int) < (l.length : Int) := by omega
      have hac : (am sl : Int) < (crews.toNat : Int) := by omega
      have hacn : am sl < crews.toNat := by omega
      have hacc : am sl + 1 ≤ crews.toNat := by omega
      have hjn : j < l.length := hlt
      have hcc : (crews.toNat : Int) = crews := by omega
      simp -dsimp -implicitDefEqProofs (disch := omega) [go_sem, -List.getD_eq_getElem?_getD, ite_yes, hlt]
      refine ALoop.intro (ι := Nat) (fun k => k + 1 ≤ crews.toNat) (fun k => [(0, .slice (some ⟨t, 0, none⟩) l.length c), (1, .int .i64 crews), (6, .slice (some ⟨H.length, 0, none⟩) l.length 0), (9, .slice (some ⟨H.length + 1, 0, none⟩) l.length l.length), (10, .slice (some ⟨H.length + 2, 0, none⟩) crews.toNat crews.toNat), (11, .int .i64 j), (12, .int .i64 (amTo sl k)), (13, .int .i64 ((k : Int) + 1))])
        (fun k => H ++ [some ⟨(ordG l l.length).flatMap nmE, true, 3, 1⟩, some ⟨so.flatMap nmE, true, 3, 1⟩, some ⟨sl.flatMap nmE, true, 3, 1⟩]) (fun k => crews.toNat - k) 0 (by omega) ?_ ?_
      · refine weakS_mk [some 0, some 1, some 2] rfl ?_ (by simp -dsimp -implicitDefEqProofs (disch := omega) [go_sem, -List.getD_eq_getElem?_getD, ite_yes, ht, amTo])
        simp -dsimp -implicitDefEqProofs (disch := omega) [go_sem, -List.getD_eq_getElem?_getD, ite_yes]
        exact ⟨.inl ⟨rfl, nmE_flat _⟩, .inl ⟨rfl, nmE_flat _⟩, .inl ⟨rfl, nmE_flat _⟩⟩
      intro k hk
      by_cases hkc : k + 1 < crews.toNat
      · have hki : (k : Int) + 1 < crews := by omega
        have hkn : ((k : Int) + 1).toNat = k + 1 := by omega
        have hle := amTo_le sl k
        have a1 : amTo sl k < crews.toNat := by omega
        have a2 : (amTo sl k : Int) < (crews.toNat : Int) := by omega
        have hki2 : (k : Int) + 1 < (crews.toNat : Int) := by omega
        have a3 := nm_cell sl (q := amTo sl k) (by omega)
        have a4 := nm_cell sl (q := k + 1) (by omega)
        have ea : (amTo sl (k + 1) : Int) = if sl.getD (k + 1) 0 < sl.getD (amTo sl k) 0 then ((k + 1 : Nat) : Int) else (amTo sl k : Int) := by rw [amTo]; split <;> rfl
        simp -dsimp -implicitDefEqProofs (disch := omega) [go_sem, -List.getD_eq_getElem?_getD, ite_yes, hki]
        refine ADraw.quiet (by kernel_rfl) (by kernel_rfl) (by kernel_rfl) ?_
        simp -dsimp -implicitDefEqProofs (disch := omega) [go_sem, -List.getD_eq_getElem?_getD, ite_yes, ht, hki, hki2, hkn, hkc, a1, a2, a3, a4, hfs]
        refine AIf.of (fun h => ?_) (fun h => ?_)
        · rw [if_pos (of_decide_eq_true h)] at ea
          simp -dsimp -implicitDefEqProofs (disch := omega) [go_sem, -List.getD_eq_getElem?_getD, ite_yes]
          refine LoopEnd.of (k + 1) (by omega) (by omega) (weakS_mk [some 0, some 1, some 2] rfl ?_ (by simp -dsimp -implicitDefEqProofs (disch := omega) [go_sem, -List.getD_eq_getElem?_getD, ite_yes, ht, ea]))
          simp -dsimp -implicitDefEqProofs (disch := omega) [go_sem, -List.getD_eq_getElem?_getD, ite_yes]
          exact ⟨.inl ⟨rfl, nmE_flat _⟩, .inl ⟨rfl, nmE_flat _⟩, .inl ⟨rfl, nmE_flat _⟩⟩
        · rw [if_neg (of_decide_eq_false h)] at ea
          simp -dsimp -implicitDefEqProofs (disch := omega) [go_sem, -List.getD_eq_getElem?_getD, ite_yes]
          refine LoopEnd.of (k + 1) (by omega) (by omega) (weakS_mk [some 0, some 1, some 2] rfl ?_ (by simp -dsimp -implicitDefEqProofs (disch := omega) [go_sem, -List.getD_eq_getElem?_getD, ite_yes, ht, ea]))
          simp -dsimp -implicitDefEqProofs (disch := omega) [go_sem, -List.getD_eq_getElem?_getD, ite_yes]
          exact ⟨.inl ⟨rfl, nmE_flat _⟩, .inl ⟨rfl, nmE_flat _⟩, .inl ⟨rfl, nmE_flat _⟩⟩
      have hki : ¬ (k : Int) + 1 < crews := by omega
      have ea : amTo sl k = am sl := by unfold am; rw [show sl.length - 1 = k by omega]
      rw [ea]
      have hfo : ((ordG l l.length).flatMap nmE).length = l.length := by rw [nmE_length, ordG_length]; omega
      generalize am sl = a at *
      simp -dsimp -implicitDefEqProofs (disch := omega) [go_sem, -List.getD_eq_getElem?_getD, ite_yes, hki, hjn, hfo, c1, hyi, hyl, hfu, s1]
      refine ADraw.any H (by kernel_rfl) (by first | exact SubH.refl | exact SubH.app | exact SubH.both (by simp [subL])) ?_
      refine AAny.takes (fuel := 10) (by kernel_rfl) (by kernel_rfl) [0, 1, 2, 3, 6, 7, 8] (by kernel_rfl) (by kernel_rfl) ?_
      simp -dsimp -implicitDefEqProofs (disch := omega) [go_sem, -List.getD_eq_getElem?_getD, ite_yes, ht, hyi, hyl, hac, hacn, hacc, hfs, hfu, hfo, hjn, c1, c2, c3, s2]
      refine AAny.two 9 4 9 (by kernel_rfl) (by kernel_rfl) (by kernel_rfl) ?_ ?_
      · simp -dsimp -implicitDefEqProofs (disch := omega) [go_sem, -List.getD_eq_getElem?_getD, ite_yes, ht, hyi, hyl, hac, hacn, hacc, hfs, hfu, hfo, hjn, c1, c2, c3, s2]
        first | refine AAt.of (by first | exact SubH.refl | exact SubH.app | exact SubH.both (by simp [subL])) ?_ | (refine ⟨?_, AAt.of (by first | exact SubH.refl | exact SubH.app | exact SubH.both (by simp [subL])) ?_⟩; · omega)
        refine AAny.two 8 5 9 (by kernel_rfl) (by kernel_rfl) (by kernel_rfl) ?_ ?_
        · simp -dsimp -implicitDefEqProofs (disch := omega) [go_sem, -List.getD_eq_getElem?_getD, ite_yes, ht, hyi, hyl, hac, hacn, hacc, hfs, hfu, hfo, hjn, c1, c2, c3, s2]
          first | refine AAt.of (by first | exact SubH.refl | exact SubH.app | exact SubH.both (by simp [subL])) ?_ | (refine ⟨?_, AAt.of (by first | exact SubH.refl | exact SubH.app | exact SubH.both (by simp [subL])) ?_⟩; · omega)
          refine AAny.one 7 9 (by kernel_rfl) (by kernel_rfl) (by kernel_rfl) ?_
          simp -dsimp -implicitDefEqProofs (disch := omega) [go_sem, -List.getD_eq_getElem?_getD, ite_yes, ht, hyi, hyl, hac, hacn, hacc, hfs, hfu, hfo, hjn, c1, c2, c3, s2]
          first | refine AAt.of (by first | exact SubH.refl | exact SubH.app | exact SubH.both (by simp [subL])) ?_ | (refine ⟨?_, AAt.of (by first | exact SubH.refl | exact SubH.app | exact SubH.both (by simp [subL])) ?_⟩; · omega)
          refine AAny.one 6 10 (by kernel_rfl) (by kernel_rfl) (by kernel_rfl) ?_
          simp -dsimp -implicitDefEqProofs (disch := omega) [go_sem, -List.getD_eq_getElem?_getD, ite_yes, ht, hyi, hyl, hac, hacn, hacc, hfs, hfu, hfo, hjn, c1, c2, c3, s2]
          first | refine AAt.of (by first | exact SubH.refl | exact SubH.app | exact SubH.both (by simp [subL])) ?_ | (refine ⟨?_, AAt.of (by first | exact SubH.refl | exact SubH.app | exact SubH.both (by simp [subL])) ?_⟩; · omega)
          refine AAny.one 5 11 (by kernel_rfl) (by kernel_rfl) (by kernel_rfl) ?_
          simp -dsimp -implicitDefEqProofs (disch := omega) [go_sem, -List.getD_eq_getElem?_getD, ite_yes, ht, hyi, hyl, hac, hacn, hacc, hfs, hfu, hfo, hjn, c1, c2, c3, s2]
          first | refine AAt.of (by first | exact SubH.refl | exact SubH.app | exact SubH.both (by simp [subL])) ?_ | (refine ⟨?_, AAt.of (by first | exact SubH.refl | exact SubH.app | exact SubH.both (by simp [subL])) ?_⟩; · omega)
          refine AAny.one 4 12 (by kernel_rfl) (by kernel_rfl) (by kernel_rfl) ?_
          simp -dsimp -implicitDefEqProofs (disch := omega) [go_sem, -List.getD_eq_getElem?_getD, ite_yes, ht, hyi, hyl, hac, hacn, hacc, hfs, hfu, hfo, hjn, c1, c2, c3, s2]
          first | refine AAt.of (by first | exact SubH.refl | exact SubH.app | exact SubH.both (by simp [subL])) ?_ | (refine ⟨?_, AAt.of (by first | exact SubH.refl | exact SubH.app | exact SubH.both (by simp [subL])) ?_⟩; · omega)
          refine AAny.one 3 13 (by kernel_rfl) (by kernel_rfl) (by kernel_rfl) ?_
          simp -dsimp -implicitDefEqProofs (disch := omega) [go_sem, -List.getD_eq_getElem?_getD, ite_yes, ht, hyi, hyl, hac, hacn, hacc, hfs, hfu, hfo, hjn, c1, c2, c3, s2]
          first | refine AAt.of (by first | exact SubH.refl | exact SubH.app | exact SubH.both (by simp [subL])) ?_ | (refine ⟨?_, AAt.of (by first | exact SubH.refl | exact SubH.app | exact SubH.both (by simp [subL])) ?_⟩; · omega)
          refine AAny.takes (fuel := 2) (by kernel_rfl) (by kernel_rfl) [14] (by kernel_rfl) (by kernel_rfl) ?_
          simp -dsimp -implicitDefEqProofs (disch := omega) [go_sem, -List.getD_eq_getElem?_getD, ite_yes, ht, hyi, hyl, hac, hacn, hacc, hfs, hfu, hfo, hjn, c1, c2, c3, s2]
          refine AAny.one 1 15 (by kernel_rfl) (by kernel_rfl) (by kernel_rfl) ?_
          simp -dsimp -implicitDefEqProofs (disch := omega) [go_sem, -List.getD_eq_getElem?_getD, ite_yes, ht, hyi, hyl, hac, hacn, hacc, hfs, hfu, hfo, hjn, c1, c2, c3, s2]
          first | refine AAt.of (by first | exact SubH.refl | exact SubH.app | exact SubH.both (by simp [subL])) ?_ | (refine ⟨?_, AAt.of (by first | exact SubH.refl | exact SubH.app | exact SubH.both (by simp [subL])) ?_⟩; · omega)
          refine AAny.one 0 16 (by kernel_rfl) (by kernel_rfl) (by kernel_rfl) ?_
          simp -dsimp -implicitDefEqProofs (disch := omega) [go_sem, -List.getD_eq_getElem?_getD, ite_yes, ht, hyi, hyl, hac, hacn, hacc, hfs, hfu, hfo, hjn, c1, c2, c3, s2]
          first | refine AAt.of (by first | exact SubH.refl | exact SubH.app | exact SubH.both (by simp [subL])) ?_ | (refine ⟨?_, AAt.of (by first | exact SubH.refl | exact SubH.app | exact SubH.both (by simp [subL])) ?_⟩; · omega)
          refine AAny.done (by kernel_rfl) ?_
          simp -dsimp -implicitDefEqProofs (disch := omega) [go_sem, -List.getD_eq_getElem?_getD, ite_yes, ht, hyi, hyl, hac, hacn, hacc, hfs, hfu, hfo, hjn, c1, c2, c3, s2]
          refine LoopEnd.of (j + 1) (by omega) (by omega) (weakS_mk [some 0, some 1, some 2] rfl ?_ (by simp -dsimp -implicitDefEqProofs (disch := omega) [go_sem, -List.getD_eq_getElem?_getD, ite_yes, ht]))
          simp -dsimp -implicitDefEqProofs (disch := omega) [go_sem, -List.getD_eq_getElem?_getD, ite_yes]
          exact ⟨.inl ⟨rfl, nmE_flat _⟩, .inl ⟨by rw [e], nmE_flat _⟩, .inl ⟨by rw [e], nmE_flat _⟩⟩
        · simp -dsimp -implicitDefEqProofs (disch := omega) [go_sem, -List.getD_eq_getElem?_getD, ite_yes, ht, hyi, hyl, hac, hacn, hacc, hfs, hfu, hfo, hjn, c1, c2, c3, s2]
          first | refine AAt.of (by first | exact SubH.refl | exact SubH.app | exact SubH.both (by simp [subL])) ?_ | (refine ⟨?_, AAt.of (by first | exact SubH.refl | exact SubH.app | exact SubH.both (by simp [subL])) ?_⟩; · omega)
          refine AAny.two 7 5 10 (by kernel_rfl) (by kernel_rfl) (by kernel_rfl) ?_ ?_
          · simp -dsimp -implicitDefEqProofs (disch := omega) [go_sem, -List.getD_eq_getElem?_getD, ite_yes, ht, hyi, hyl, hac, hacn, hacc, hfs, hfu, hfo, hjn, c1, c2, c3, s2]
            first | refine AAt.of (by first | exact SubH.refl | exact SubH.app | exact SubH.both (by simp [subL])) ?_ | (refine ⟨?_, AAt.of (by first | exact SubH.refl | exact SubH.app | exact SubH.both (by simp [subL])) ?_⟩; · omega)
            refine AAny.one 6 10 (by kernel_rfl) (by kernel_rfl) (by kernel_rfl) ?_
            simp -dsimp -implicitDefEqProofs (disch := omega) [go_sem, -List.getD_eq_getElem?_getD, ite_yes, ht, hyi, hyl, hac, hacn, hacc, hfs, hfu, hfo, hjn, c1, c2, c3, s2]
            first | refine AAt.of (by first | exact SubH.refl | exact SubH.app | exact SubH.both (by simp [subL])) ?_ | (refine ⟨?_, AAt.of (by first | exact SubH.refl | exact SubH.app | exact SubH.both (by simp [subL])) ?_⟩; · omega)
            refine AAny.one 5 11 (by kernel_rfl) (by kernel_rfl) (by kernel_rfl) ?_
            simp -dsimp -implicitDefEqProofs (disch := omega) [go_sem, -List.getD_eq_getElem?_getD, ite_yes, ht, hyi, hyl, hac, hacn, hacc, hfs, hfu, hfo, hjn, c1, c2, c3, s2]
            first | refine AAt.of (by first | exact SubH.refl | exact SubH.app | exact SubH.both (by simp [subL])) ?_ | (refine ⟨?_, AAt.of (by first | exact SubH.refl | exact SubH.app | exact SubH.both (by simp [subL])) ?_⟩; · omega)
            refine AAny.one 4 12 (by kernel_rfl) (by kernel_rfl) (by kernel_rfl) ?_
            simp -dsimp -implicitDefEqProofs (disch := omega) [go_sem, -List.getD_eq_getElem?_getD, ite_yes, ht, hyi, hyl, hac, hacn, hacc, hfs, hfu, hfo, hjn, c1, c2, c3, s2]
            first | refine AAt.of (by first | exact SubH.refl | exact SubH.app | exact SubH.both (by simp [subL])) ?_ | (refine ⟨?_, AAt.of (by first | exact SubH.refl | exact SubH.app | exact SubH.both (by simp [subL])) ?_⟩; · omega)
            refine AAny.one 3 13 (by kernel_rfl) (by kernel_rfl) (by kernel_rfl) ?_
            simp -dsimp -implicitDefEqProofs (disch := omega) [go_sem, -List.getD_eq_getElem?_getD, ite_yes, ht, hyi, hyl, hac, hacn, hacc, hfs, hfu, hfo, hjn, c1, c2, c3, s2]
            first | refine AAt.of (by first | exact SubH.refl | exact SubH.app | exact SubH.both (by simp [subL])) ?_ | (refine ⟨?_, AAt.of (by first | exact SubH.refl | exact SubH.app | exact SubH.both (by simp [subL])) ?_⟩; · omega)
            refine AAny.takes (fuel := 2) (by kernel_rfl) (by kernel_rfl) [14] (by kernel_rfl) (by kernel_rfl) ?_
            simp -dsimp -implicitDefEqProofs (disch := omega) [go_sem, -List.getD_eq_getElem?_getD, ite_yes, ht, hyi, hyl, hac, hacn, hacc, hfs, hfu, hfo, hjn, c1, c2, c3, s2]
            refine AAny.one 1 15 (by kernel_rfl) (by kernel_rfl) (by kernel_rfl) ?_
            simp -dsimp -implicitDefEqProofs (disch := omega) [go_sem, -List.getD_eq_getElem?_getD, ite_yes, ht, hyi, hyl, hac, hacn, hacc, hfs, hfu, hfo, hjn, c1, c2, c3, s2]
            first | refine AAt.of (by first | exact SubH.refl | exact SubH.app | exact SubH.both (by simp [subL])) ?_ | (refine ⟨?_, AAt.of (by first | exact SubH.refl | exact SubH.app | exact SubH.both (by simp [subL])) ?_⟩; · omega)
            refine AAny.one 0 16 (by kernel_rfl) (by kernel_rfl) (by kernel_rfl) ?_
            simp -dsimp -implicitDefEqProofs (disch := omega) [go_sem, -List.getD_eq_getElem?_getD, ite_yes, ht, hyi, hyl, hac, hacn, hacc, hfs, hfu, hfo, hjn, c1, c2, c3, s2]
            first | refine AAt.of (by first | exact SubH.refl | exact SubH.app | exact SubH.both (by simp [subL])) ?_ | (refine ⟨?_, AAt.of (by first | exact SubH.refl | exact SubH.app | exact SubH.both (by simp [subL])) ?_⟩; · omega)
            refine AAny.done (by kernel_rfl) ?_
            simp -dsimp -implicitDefEqProofs (disch := omega) [go_sem, -List.getD_eq_getElem?_getD, ite_yes, ht, hyi, hyl, hac, hacn, hacc, hfs, hfu, hfo, hjn, c1, c2, c3, s2]
            refine LoopEnd.of (j + 1) (by omega) (by omega) (weakS_mk [some 0, some 1, some 2] rfl ?_ (by simp -dsimp -implicitDefEqProofs (disch := omega) [go_sem, -List.getD_eq_getElem?_getD, ite_yes, ht]))
            simp -dsimp -implicitDefEqProofs (disch := omega) [go_sem, -List.getD_eq_getElem?_getD, ite_yes]
            exact ⟨.inl ⟨rfl, nmE_flat _⟩, .inl ⟨by rw [e], nmE_flat _⟩, .inl ⟨by rw [e], nmE_flat _⟩⟩
          · simp -dsimp -implicitDefEqProofs (disch := omega) [go_sem, -List.getD_eq_getElem?_getD, ite_yes, ht, hyi, hyl, hac, hacn, hacc, hfs, hfu, hfo, hjn, c1, c2, c3, s2]
            first | refine AAt.of (by first | exact SubH.refl | exact SubH.app | exact SubH.both (by simp [subL])) ?_ | (refine ⟨?_, AAt.of (by first | exact SubH.refl | exact SubH.app | exact SubH.both (by simp [subL])) ?_⟩; · omega)
            refine AAny.two 6 5 11 (by kernel_rfl) (by kernel_rfl) (by kernel_rfl) ?_ ?_
            · simp -dsimp -implicitDefEqProofs (disch := omega) [go_sem, -List.getD_eq_getElem?_getD, ite_yes, ht, hyi, hyl, hac, hacn, hacc, hfs, hfu, hfo, hjn, c1, c2, c3, s2]
              first | refine AAt.of (by first | exact SubH.refl | exact SubH.app | exact SubH.both (by simp [subL])) ?_ | (refine ⟨?_, AAt.of (by first | exact SubH.refl | exact SubH.app | exact SubH.both (by simp [subL])) ?_⟩; · omega)
              refine AAny.one 5 11 (by kernel_rfl) (by kernel_rfl) (by kernel_rfl) ?_
              simp -dsimp -implicitDefEqProofs (disch := omega) [go_sem, -List.getD_eq_getElem?_getD, ite_yes, ht, hyi, hyl, hac, hacn, hacc, hfs, hfu, hfo, hjn, c1, c2, c3, s2]
              first | refine AAt.of (by first | exact SubH.refl | exact SubH.app | exact SubH.both (by simp [subL])) ?_ | (refine ⟨?_, AAt.of (by first | exact SubH.refl | exact SubH.app | exact SubH.both (by simp [subL])) ?_⟩; · omega)
              refine AAny.one 4 12 (by kernel_rfl) (by kernel_rfl) (by kernel_rfl) ?_
              simp -dsimp -implicitDefEqProofs (disch := omega) [go_sem, -List.getD_eq_getElem?_getD, ite_yes, ht, hyi, hyl, hac, hacn, hacc, hfs, hfu, hfo, hjn, c1, c2, c3, s2]
              first | refine AAt.of (by first | exact SubH.refl | exact SubH.app | exact SubH.both (by simp [subL])) ?_ | (refine ⟨?_, AAt.of (by first | exact SubH.refl | exact SubH.app | exact SubH.both (by simp [subL])) ?_⟩; · omega)
              refine AAny.one 3 13 (by kernel_rfl) (by kernel_rfl) (by kernel_rfl) ?_
              simp -dsimp -implicitDefEqProofs (disch := omega) [go_sem, -List.getD_eq_getElem?_getD, ite_yes, ht, hyi, hyl, hac, hacn, hacc, hfs, hfu, hfo, hjn, c1, c2, c3, s2]
              first | refine AAt.of (by first | exact SubH.refl | exact SubH.app | exact SubH.both (by simp [subL])) ?_ | (refine ⟨?_, AAt.of (by first | exact SubH.refl | exact SubH.app | exact SubH.both (by simp [subL])) ?_⟩; · omega)
              refine AAny.takes (fuel := 2) (by kernel_rfl) (by kernel_rfl) [14] (by kernel_rfl) (by kernel_rfl) ?_
              simp -dsimp -implicitDefEqProofs (disch := omega) [go_sem, -List.getD_eq_getElem?_getD, ite_yes, ht, hyi, hyl, hac, hacn, hacc, hfs, hfu, hfo, hjn, c1, c2, c3, s2]
              refine AAny.one 1 15 (by kernel_rfl) (by kernel_rfl) (by kernel_rfl) ?_
              simp -dsimp -implicitDefEqProofs (disch := omega) [go_sem, -List.getD_eq_getElem?_getD, ite_yes, ht, hyi, hyl, hac, hacn, hacc, hfs, hfu, hfo, hjn, c1, c2, c3, s2]
              first | refine AAt.of (by first | exact SubH.refl | exact SubH.app | exact SubH.both (by simp [subL])) ?_ | (refine ⟨?_, AAt.of (by first | exact SubH.refl | exact SubH.app | exact SubH.both (by simp [subL])) ?_⟩; · omega)
              refine AAny.one 0 16 (by kernel_rfl) (by kernel_rfl) (by kernel_rfl) ?_
              simp -dsimp -implicitDefEqProofs (disch := omega) [go_sem, -List.getD_eq_getElem?_getD, ite_yes, ht, hyi, hyl, hac, hacn, hacc, hfs, hfu, hfo, hjn, c1, c2, c3, s2]
              first | refine AAt.of (by first | exact SubH.refl | exact SubH.app | exact SubH.both (by simp [subL])) ?_ | (refine ⟨?_, AAt.of (by first | exact SubH.refl | exact SubH.app | exact SubH.both (by simp [subL])) ?_⟩; · omega)
              refine AAny.done (by kernel_rfl) ?_
              simp -dsimp -implicitDefEqProofs (disch := omega) [go_sem, -List.getD_eq_getElem?_getD, ite_yes, ht, hyi, hyl, hac, hacn, hacc, hfs, hfu, hfo, hjn, c1, c2, c3, s2]
              refine LoopEnd.of (j + 1) (by omega) (by omega) (weakS_mk [some 0, some 1, some 2] rfl ?_ (by simp -dsimp -implicitDefEqProofs (disch := omega) [go_sem, -List.getD_eq_getElem?_getD, ite_yes, ht]))
              simp -dsimp -implicitDefEqProofs (disch := omega) [go_sem, -List.getD_eq_getElem?_getD, ite_yes]
              exact ⟨.inl ⟨rfl, nmE_flat _⟩, .inl ⟨by rw [e], nmE_flat _⟩, .inl ⟨by rw [e], nmE_flat _⟩⟩
            · simp -dsimp -implicitDefEqProofs (disch := omega) [go_sem, -List.getD_eq_getElem?_getD, ite_yes, ht, hyi, hyl, hac, hacn, hacc, hfs, hfu, hfo, hjn, c1, c2, c3, s2]
              first | refine AAt.of (by first | exact SubH.refl | exact SubH.app | exact SubH.both (by simp [subL])) ?_ | (refine ⟨?_, AAt.of (by first | exact SubH.refl | exact SubH.app | exact SubH.both (by simp [subL])) ?_⟩; · omega)
              refine AAny.two 5 5 12 (by kernel_rfl) (by kernel_rfl) (by kernel_rfl) ?_ ?_
              · simp -dsimp -implicitDefEqProofs (disch := omega) [go_sem, -List.getD_eq_getElem?_getD, ite_yes, ht, hyi, hyl, hac, hacn, hacc, hfs, hfu, hfo, hjn, c1, c2, c3, s2]
                first | refine AAt.of (by first | exact SubH.refl | exact SubH.app | exact SubH.both (by simp [subL])) ?_ | (refine ⟨?_, AAt.of (by first | exact SubH.refl | exact SubH.app | exact SubH.both (by simp [subL])) ?_⟩; · omega)
                refine AAny.one 4 12 (by kernel_rfl) (by kernel_rfl) (by kernel_rfl) ?_
                simp -dsimp -implicitDefEqProofs (disch := omega) [go_sem, -List.getD_eq_getElem?_getD, ite_yes, ht, hyi, hyl, hac, hacn, hacc, hfs, hfu, hfo, hjn, c1, c2, c3, s2]
                first | refine AAt.of (by first | exact SubH.refl | exact SubH.app | exact SubH.both (by simp [subL])) ?_ | (refine ⟨?_, AAt.of (by first | exact SubH.refl | exact SubH.app | exact SubH.both (by simp [subL])) ?_⟩; · omega)
                refine AAny.one 3 13 (by kernel_rfl) (by kernel_rfl) (by kernel_rfl) ?_
                simp -dsimp -implicitDefEqProofs (disch := omega) [go_sem, -List.getD_eq_getElem?_getD, ite_yes, ht, hyi, hyl, hac, hacn, hacc, hfs, hfu, hfo, hjn, c1, c2, c3, s2]
                first | refine AAt.of (by first | exact SubH.refl | exact SubH.app | exact SubH.both (by simp [subL])) ?_ | (refine ⟨?_, AAt.of (by first | exact SubH.refl | exact SubH.app | exact SubH.both (by simp [subL])) ?_⟩; · omega)
                refine AAny.takes (fuel := 2) (by kernel_rfl) (by kernel_rfl) [14] (by kernel_rfl) (by kernel_rfl) ?_
                simp -dsimp -implicitDefEqProofs (disch := omega) [go_sem, -List.getD_eq_getElem?_getD, ite_yes, ht, hyi, hyl, hac, hacn, hacc, hfs, hfu, hfo, hjn, c1, c2, c3, s2]
                refine AAny.one 1 15 (by kernel_rfl) (by kernel_rfl) (by kernel_rfl) ?_
                simp -dsimp -implicitDefEqProofs (disch := omega) [go_sem, -List.getD_eq_getElem?_getD, ite_yes, ht, hyi, hyl, hac, hacn, hacc, hfs, hfu, hfo, hjn, c1, c2, c3, s2]
                first | refine AAt.of (by first | exact SubH.refl | exact SubH.app | exact SubH.both (by simp [subL])) ?_ | (refine ⟨?_, AAt.of (by first | exact SubH.refl | exact SubH.app | exact SubH.both (by simp [subL])) ?_⟩; · omega)
                refine AAny.one 0 16 (by kernel_rfl) (by kernel_rfl) (by kernel_rfl) ?_
                simp -dsimp -implicitDefEqProofs (disch := omega) [go_sem, -List.getD_eq_getElem?_getD, ite_yes, ht, hyi, hyl, hac, hacn, hacc, hfs, hfu, hfo, hjn, c1, c2, c3, s2]
                first | refine AAt.of (by first | exact SubH.refl | exact SubH.app | exact SubH.both (by simp [subL])) ?_ | (refine ⟨?_, AAt.of (by first | exact SubH.refl | exact SubH.app | exact SubH.both (by simp [subL])) ?_⟩; · omega)
                refine AAny.done (by kernel_rfl) ?_
                simp -dsimp -implicitDefEqProofs (disch := omega) [go_sem, -List.getD_eq_getElem?_getD, ite_yes, ht, hyi, hyl, hac, hacn, hacc, hfs, hfu, hfo, hjn, c1, c2, c3, s2]
                refine LoopEnd.of (j + 1) (by omega) (by omega) (weakS_mk [some 0, some 1, some 2] rfl ?_ (by simp -dsimp -implicitDefEqProofs (disch := omega) [go_sem, -List.getD_eq_getElem?_getD, ite_yes, ht]))
                simp -dsimp -implicitDefEqProofs (disch := omega) [go_sem, -List.getD_eq_getElem?_getD, ite_yes]
                exact ⟨.inl ⟨rfl, nmE_flat _⟩, .inl ⟨by rw [e], nmE_flat _⟩, .inl ⟨by rw [e], nmE_flat _⟩⟩
              · simp -dsimp -implicitDefEqProofs (disch := omega) [go_sem, -List.getD_eq_getElem?_getD, ite_yes, ht, hyi, hyl, hac, hacn, hacc, hfs, hfu, hfo, hjn, c1, c2, c3, s2]
                first | refine AAt.of (by first | exact SubH.refl | exact SubH.app | exact SubH.both (by simp [subL])) ?_ | (refine ⟨?_, AAt.of (by first | exact SubH.refl | exact SubH.app | exact SubH.both (by simp [subL])) ?_⟩; · omega)
                refine AAny.two 4 5 13 (by kernel_rfl) (by kernel_rfl) (by kernel_rfl) ?_ ?_
                · simp -dsimp -implicitDefEqProofs (disch := omega) [go_sem, -List.getD_eq_getElem?_getD, ite_yes, ht, hyi, hyl, hac, hacn, hacc, hfs, hfu, hfo, hjn, c1, c2, c3, s2]
                  first | refine AAt.of (by first | exact SubH.refl | exact SubH.app | exact SubH.both (by simp [subL])) ?_ | (refine ⟨?_, AAt.of (by first | exact SubH.refl | exact SubH.app | exact SubH.both (by simp [subL])) ?_⟩; · omega)
                  refine AAny.one 3 13 (by kernel_rfl) (by kernel_rfl) (by kernel_rfl) ?_
                  simp -dsimp -implicitDefEqProofs (disch := omega) [go_sem, -List.getD_eq_getElem?_getD, ite_yes, ht, hyi, hyl, hac, hacn, hacc, hfs, hfu, hfo, hjn, c1, c2, c3, s2]
                  first | refine AAt.of (by first | exact SubH.refl | exact SubH.app | exact SubH.both (by simp [subL])) ?_ | (refine ⟨?_, AAt.of (by first | exact SubH.refl | exact SubH.app | exact SubH.both (by simp [subL])) ?_⟩; · omega)
                  refine AAny.takes (fuel := 2) (by kernel_rfl) (by kernel_rfl) [14] (by kernel_rfl) (by kernel_rfl) ?_
                  simp -dsimp -implicitDefEqProofs (disch := omega) [go_sem, -List.getD_eq_getElem?_getD, ite_yes, ht, hyi, hyl, hac, hacn, hacc, hfs, hfu, hfo, hjn, c1, c2, c3, s2]
                  refine AAny.one 1 15 (by kernel_rfl) (by kernel_rfl) (by kernel_rfl) ?_
                  simp -dsimp -implicitDefEqProofs (disch := omega) [go_sem, -List.getD_eq_getElem?_getD, ite_yes, ht, hyi, hyl, hac, hacn, hacc, hfs, hfu, hfo, hjn, c1, c2, c3, s2]
                  first | refine AAt.of (by first | exact SubH.refl | exact SubH.app | exact SubH.both (by simp [subL])) ?_ | (refine ⟨?_, AAt.of (by first | exact SubH.refl | exact SubH.app | exact SubH.both (by simp [subL])) ?_⟩; · omega)
                  refine AAny.one 0 16 (by kernel_rfl) (by kernel_rfl) (by kernel_rfl) ?_
                  simp -dsimp -implicitDefEqProofs (disch := omega) [go_sem, -List.getD_eq_getElem?_getD, ite_yes, ht, hyi, hyl, hac, hacn, hacc, hfs, hfu, hfo, hjn, c1, c2, c3, s2]
                  first | refine AAt.of (by first | exact SubH.refl | exact SubH.app | exact SubH.both (by simp [subL])) ?_ | (refine ⟨?_, AAt.of (by first | exact SubH.refl | exact SubH.app | exact SubH.both (by simp [subL])) ?_⟩; · omega)
                  refine AAny.done (by kernel_rfl) ?_
                  simp -dsimp -implicitDefEqProofs (disch := omega) [go_sem, -List.getD_eq_getElem?_getD, ite_yes, ht, hyi, hyl, hac, hacn, hacc, hfs, hfu, hfo, hjn, c1, c2, c3, s2]
                  refine LoopEnd.of (j + 1) (by omega) (by omega) (weakS_mk [some 0, some 1, some 2] rfl ?_ (by simp -dsimp -implicitDefEqProofs (disch := omega) [go_sem, -List.getD_eq_getElem?_getD, ite_yes, ht]))
                  simp -dsimp -implicitDefEqProofs (disch := omega) [go_sem, -List.getD_eq_getElem?_getD, ite_yes]
                  exact ⟨.inl ⟨rfl, nmE_flat _⟩, .inl ⟨by rw [e], nmE_flat _⟩, .inl ⟨by rw [e], nmE_flat _⟩⟩
                · simp -dsimp -implicitDefEqProofs (disch := omega) [go_sem, -List.getD_eq_getElem?_getD, ite_yes, ht, hyi, hyl, hac, hacn, hacc, hfs, hfu, hfo, hjn, c1, c2, c3, s2]
                  first | refine AAt.of (by first | exact SubH.refl | exact SubH.app | exact SubH.both (by simp [subL])) ?_ | (refine ⟨?_, AAt.of (by first | exact SubH.refl | exact SubH.app | exact SubH.both (by simp [subL])) ?_⟩; · omega)
                  refine AAny.one 3 5 (by kernel_rfl) (by kernel_rfl) (by kernel_rfl) ?_
                  simp -dsimp -implicitDefEqProofs (disch := omega) [go_sem, -List.getD_eq_getElem?_getD, ite_yes, ht, hyi, hyl, hac, hacn, hacc, hfs, hfu, hfo, hjn, c1, c2, c3, s2]
                  first | refine AAt.of (by first | exact SubH.refl | exact SubH.app | exact SubH.both (by simp [subL])) ?_ | (refine ⟨?_, AAt.of (by first | exact SubH.refl | exact SubH.app | exact SubH.both (by simp [subL])) ?_⟩; · omega)
                  refine AAny.takes (fuel := 2) (by kernel_rfl) (by kernel_rfl) [14] (by kernel_rfl) (by kernel_rfl) ?_
                  simp -dsimp -implicitDefEqProofs (disch := omega) [go_sem, -List.getD_eq_getElem?_getD, ite_yes, ht, hyi, hyl, hac, hacn, hacc, hfs, hfu, hfo, hjn, c1, c2, c3, s2]
                  refine AAny.one 1 15 (by kernel_rfl) (by kernel_rfl) (by kernel_rfl) ?_
                  simp -dsimp -implicitDefEqProofs (disch := omega) [go_sem, -List.getD_eq_getElem?_getD, ite_yes, ht, hyi, hyl, hac, hacn, hacc, hfs, hfu, hfo, hjn, c1, c2, c3, s2]
                  first | refine AAt.of (by first | exact SubH.refl | exact SubH.app | exact SubH.both (by simp [subL])) ?_ | (refine ⟨?_, AAt.of (by first | exact SubH.refl | exact SubH.app | exact SubH.both (by simp [subL])) ?_⟩; · omega)
                  refine AAny.one 0 16 (by kernel_rfl) (by kernel_rfl) (by kernel_rfl) ?_
                  simp -dsimp -implicitDefEqProofs (disch := omega) [go_sem, -List.getD_eq_getElem?_getD, ite_yes, ht, hyi, hyl, hac, hacn, hacc, hfs, hfu, hfo, hjn, c1, c2, c3, s2]
                  first | refine AAt.of (by first | exact SubH.refl | exact SubH.app | exact SubH.both (by simp [subL])) ?_ | (refine ⟨?_, AAt.of (by first | exact SubH.refl | exact SubH.app | exact SubH.both (by simp [subL])) ?_⟩; · omega)
                  refine AAny.done (by kernel_rfl) ?_
                  simp -dsimp -implicitDefEqProofs (disch := omega) [go_sem, -List.getD_eq_getElem?_getD, ite_yes, ht, hyi, hyl, hac, hacn, hacc, hfs, hfu, hfo, hjn, c1, c2, c3, s2]
                  refine LoopEnd.of (j + 1) (by omega) (by omega) (weakS_mk [some 0, some 1, some 2] rfl ?_ (by simp -dsimp -implicitDefEqProofs (disch := omega) [go_sem, -List.getD_eq_getElem?_getD, ite_yes, ht]))
                  simp -dsimp -implicitDefEqProofs (disch := omega) [go_sem, -List.getD_eq_getElem?_getD, ite_yes]
                  exact ⟨.inl ⟨rfl, nmE_flat _⟩, .inl ⟨by rw [e], nmE_flat _⟩, .inl ⟨by rw [e], nmE_flat _⟩⟩
      · simp -dsimp -implicitDefEqProofs (disch := omega) [go_sem, -List.getD_eq_getElem?_getD, ite_yes, ht, hyi, hyl, hac, hacn, hacc, hfs, hfu, hfo, hjn, c1, c2, c3, s2]
        first | refine AAt.of (by first | exact SubH.refl | exact SubH.app | exact SubH.both (by simp [subL])) ?_ | (refine ⟨?_, AAt.of (by first | exact SubH.refl | exact SubH.app | exact SubH.both (by simp [subL])) ?_⟩; · omega)
        refine AAny.two 8 4 10 (by kernel_rfl) (by kernel_rfl) (by kernel_rfl) ?_ ?_
        · simp -dsimp -implicitDefEqProofs (disch := omega) [go_sem, -List.getD_eq_getElem?_getD, ite_yes, ht, hyi, hyl, hac, hacn, hacc, hfs, hfu, hfo, hjn, c1, c2, c3, s2]
          first | refine AAt.of (by first | exact SubH.refl | exact SubH.app | exact SubH.both (by simp [subL])) ?_ | (refine ⟨?_, AAt.of (by first | exact SubH.refl | exact SubH.app | exact SubH.both (by simp [subL])) ?_⟩; · omega)
          refine AAny.two 7 5 10 (by kernel_rfl) (by kernel_rfl) (by kernel_rfl) ?_ ?_
          · simp -dsimp -implicitDefEqProofs (disch := omega) [go_sem, -List.getD_eq_getElem?_getD, ite_yes, ht, hyi, hyl, hac, hacn, hacc, hfs, hfu, hfo, hjn, c1, c2, c3, s2]
            first | refine AAt.of (by first | exact SubH.refl | exact SubH.app | exact SubH.both (by simp [subL])) ?_ | (refine ⟨?_, AAt.of (by first | exact SubH.refl | exact SubH.app | exact SubH.both (by simp [subL])) ?_⟩; · omega)
            refine AAny.one 6 10 (by kernel_rfl) (by kernel_rfl) (by kernel_rfl) ?_
            simp -dsimp -implicitDefEqProofs (disch := omega) [go_sem, -List.getD_eq_getElem?_getD, ite_yes, ht, hyi, hyl, hac, hacn, hacc, hfs, hfu, hfo, hjn, c1, c2, c3, s2]
            first | refine AAt.of (by first | exact SubH.refl | exact SubH.app | exact SubH.both (by simp [subL])) ?_ | (refine ⟨?_, AAt.of (by first | exact SubH.refl | exact SubH.app | exact SubH.both (by simp [subL])) ?_⟩; · omega)
            refine AAny.one 5 11 (by kernel_rfl) (by kernel_rfl) (by kernel_rfl) ?_
            simp -dsimp -implicitDefEqProofs (disch := omega) [go_sem, -List.getD_eq_getElem?_getD, ite_yes, ht, hyi, hyl, hac, hacn, hacc, hfs, hfu, hfo, hjn, c1, c2, c3, s2]
            first | refine AAt.of (by first | exact SubH.refl | exact SubH.app | exact SubH.both (by simp [subL])) ?_ | (refine ⟨?_, AAt.of (by first | exact SubH.refl | exact SubH.app | exact SubH.both (by simp [subL])) ?_⟩; · omega)
            refine AAny.one 4 12 (by kernel_rfl) (by kernel_rfl) (by kernel_rfl) ?_
            simp -dsimp -implicitDefEqProofs (disch := omega) [go_sem, -List.getD_eq_getElem?_getD, ite_yes, ht, hyi, hyl, hac, hacn, hacc, hfs, hfu, hfo, hjn, c1, c2, c3, s2]
            first | refine AAt.of (by first | exact SubH.refl | exact SubH.app | exact SubH.both (by simp [subL])) ?_ | (refine ⟨?_, AAt.of (by first | exact SubH.refl | exact SubH.app | exact SubH.both (by simp [subL])) ?_⟩; · omega)
            refine AAny.one 3 13 (by kernel_rfl) (by kernel_rfl) (by kernel_rfl) ?_
            simp -dsimp -implicitDefEqProofs (disch := omega) [go_sem, -List.getD_eq_getElem?_getD, ite_yes, ht, hyi, hyl, hac, hacn, hacc, hfs, hfu, hfo, hjn, c1, c2, c3, s2]
            first | refine AAt.of (by first | exact SubH.refl | exact SubH.app | exact SubH.both (by simp [subL])) ?_ | (refine ⟨?_, AAt.of (by first | exact SubH.refl | exact SubH.app | exact SubH.both (by simp [subL])) ?_⟩; · omega)
            refine AAny.takes (fuel := 2) (by kernel_rfl) (by kernel_rfl) [14] (by kernel_rfl) (by kernel_rfl) ?_
            simp -dsimp -implicitDefEqProofs (disch := omega) [go_sem, -List.getD_eq_getElem?_getD, ite_yes, ht, hyi, hyl, hac, hacn, hacc, hfs, hfu, hfo, hjn, c1, c2, c3, s2]
            refine AAny.one 1 15 (by kernel_rfl) (by kernel_rfl) (by kernel_rfl) ?_
            simp -dsimp -implicitDefEqProofs (disch := omega) [go_sem, -List.getD_eq_getElem?_getD, ite_yes, ht, hyi, hyl, hac, hacn, hacc, hfs, hfu, hfo, hjn, c1, c2, c3, s2]
            first | refine AAt.of (by first | exact SubH.refl | exact SubH.app | exact SubH.both (by simp [subL])) ?_ | (refine ⟨?_, AAt.of (by first | exact SubH.refl | exact SubH.app | exact SubH.both (by simp [subL])) ?_⟩; · omega)
            refine AAny.one 0 16 (by kernel_rfl) (by kernel_rfl) (by kernel_rfl) ?_
            simp -dsimp -implicitDefEqProofs (disch := omega) [go_sem, -List.getD_eq_getElem?_getD, ite_yes, ht, hyi, hyl, hac, hacn, hacc, hfs, hfu, hfo, hjn, c1, c2, c3, s2]
            first | refine AAt.of (by first | exact SubH.refl | exact SubH.app | exact SubH.both (by simp [subL])) ?_ | (refine ⟨?_, AAt.of (by first | exact SubH.refl | exact SubH.app | exact SubH.both (by simp [subL])) ?_⟩; · omega)
            refine AAny.done (by kernel_rfl) ?_
            simp -dsimp -implicitDefEqProofs (disch := omega) [go_sem, -List.getD_eq_getElem?_getD, ite_yes, ht, hyi, hyl, hac, hacn, hacc, hfs, hfu, hfo, hjn, c1, c2, c3, s2]
            refine LoopEnd.of (j + 1) (by omega) (by omega) (weakS_mk [some 0, some 1, some 2] rfl ?_ (by simp -dsimp -implicitDefEqProofs (disch := omega) [go_sem, -List.getD_eq_getElem?_getD, ite_yes, ht]))
            simp -dsimp -implicitDefEqProofs (disch := omega) [go_sem, -List.getD_eq_getElem?_getD, ite_yes]
            exact ⟨.inl ⟨rfl, nmE_flat _⟩, .inl ⟨by rw [e], nmE_flat _⟩, .inl ⟨by rw [e], nmE_flat _⟩⟩
          · simp -dsimp -implicitDefEqProofs (disch := omega) [go_sem, -List.getD_eq_getElem?_getD, ite_yes, ht, hyi, hyl, hac, hacn, hacc, hfs, hfu, hfo, hjn, c1, c2, c3, s2]
            first | refine AAt.of (by first | exact SubH.refl | exact SubH.app | exact SubH.both (by simp [subL])) ?_ | (refine ⟨?_, AAt.of (by first | exact SubH.refl | exact SubH.app | exact SubH.both (by simp [subL])) ?_⟩; · omega)
            refine AAny.two 6 5 11 (by kernel_rfl) (by kernel_rfl) (by kernel_rfl) ?_ ?_
            · simp -dsimp -implicitDefEqProofs (disch := omega) [go_sem, -List.getD_eq_getElem?_getD, ite_yes, ht, hyi, hyl, hac, hacn, hacc, hfs, hfu, hfo, hjn, c1, c2, c3, s2]
              first | refine AAt.of (by first | exact SubH.refl | exact SubH.app | exact SubH.both (by simp [subL])) ?_ | (refine ⟨?_, AAt.of (by first | exact SubH.refl | exact SubH.app | exact SubH.both (by simp [subL])) ?_⟩; · omega)
              refine AAny.one 5 11 (by kernel_rfl) (by kernel_rfl) (by kernel_rfl) ?_
              simp -dsimp -implicitDefEqProofs (disch := omega) [go_sem, -List.getD_eq_getElem?_getD, ite_yes, ht, hyi, hyl, hac, hacn, hacc, hfs, hfu, hfo, hjn, c1, c2, c3, s2]
              first | refine AAt.of (by first | exact SubH.refl | exact SubH.app | exact SubH.both (by simp [subL])) ?_ | (refine ⟨?_, AAt.of (by first | exact SubH.refl | exact SubH.app | exact SubH.both (by simp [subL])) ?_⟩; · omega)
              refine AAny.one 4 12 (by kernel_rfl) (by kernel_rfl) (by kernel_rfl) ?_
              simp -dsimp -implicitDefEqProofs (disch := omega) [go_sem, -List.getD_eq_getElem?_getD, ite_yes, ht, hyi, hyl, hac, hacn, hacc, hfs, hfu, hfo, hjn, c1, c2, c3, s2]
              first | refine AAt.of (by first | exact SubH.refl | exact SubH.app | exact SubH.both (by simp [subL])) ?_ | (refine ⟨?_, AAt.of (by first | exact SubH.refl | exact SubH.app | exact SubH.both (by simp [subL])) ?_⟩; · omega)
              refine AAny.one 3 13 (by kernel_rfl) (by kernel_rfl) (by kernel_rfl) ?_
              simp -dsimp -implicitDefEqProofs (disch := omega) [go_sem, -List.getD_eq_getElem?_getD, ite_yes, ht, hyi, hyl, hac, hacn, hacc, hfs, hfu, hfo, hjn, c1, c2, c3, s2]
              first | refine AAt.of (by first | exact SubH.refl | exact SubH.app | exact SubH.both (by simp [subL])) ?_ | (refine ⟨?_, AAt.of (by first | exact SubH.refl | exact SubH.app | exact SubH.both (by simp [subL])) ?_⟩; · omega)
              refine AAny.takes (fuel := 2) (by kernel_rfl) (by kernel_rfl) [14] (by kernel_rfl) (by kernel_rfl) ?_
              simp -dsimp -implicitDefEqProofs (disch := omega) [go_sem, -List.getD_eq_getElem?_getD, ite_yes, ht, hyi, hyl, hac, hacn, hacc, hfs, hfu, hfo, hjn, c1, c2, c3, s2]
              refine AAny.one 1 15 (by kernel_rfl) (by kernel_rfl) (by kernel_rfl) ?_
              simp -dsimp -implicitDefEqProofs (disch := omega) [go_sem, -List.getD_eq_getElem?_getD, ite_yes, ht, hyi, hyl, hac, hacn, hacc, hfs, hfu, hfo, hjn, c1, c2, c3, s2]
              first | refine AAt.of (by first | exact SubH.refl | exact SubH.app | exact SubH.both (by simp [subL])) ?_ | (refine ⟨?_, AAt.of (by first | exact SubH.refl | exact SubH.app | exact SubH.both (by simp [subL])) ?_⟩; · omega)
              refine AAny.one 0 16 (by kernel_rfl) (by kernel_rfl) (by kernel_rfl) ?_
              simp -dsimp -implicitDefEqProofs (disch := omega) [go_sem, -List.getD_eq_getElem?_getD, ite_yes, ht, hyi, hyl, hac, hacn, hacc, hfs, hfu, hfo, hjn, c1, c2, c3, s2]
              first | refine AAt.of (by first | exact SubH.refl | exact SubH.app | exact SubH.both (by simp [subL])) ?_ | (refine ⟨?_, AAt.of (by first | exact SubH.refl | exact SubH.app | exact SubH.both (by simp [subL])) ?_⟩; · omega)
              refine AAny.done (by kernel_rfl) ?_
              simp -dsimp -implicitDefEqProofs (disch := omega) [go_sem, -List.getD_eq_getElem?_getD, ite_yes, ht, hyi, hyl, hac, hacn, hacc, hfs, hfu, hfo, hjn, c1, c2, c3, s2]
              refine LoopEnd.of (j + 1) (by omega) (by omega) (weakS_mk [some 0, some 1, some 2] rfl ?_ (by simp -dsimp -implicitDefEqProofs (disch := omega) [go_sem, -List.getD_eq_getElem?_getD, ite_yes, ht]))
              simp -dsimp -implicitDefEqProofs (disch := omega) [go_sem, -List.getD_eq_getElem?_getD, ite_yes]
              exact ⟨.inl ⟨rfl, nmE_flat _⟩, .inl ⟨by rw [e], nmE_flat _⟩, .inl ⟨by rw [e], nmE_flat _⟩⟩
            · simp -dsimp -implicitDefEqProofs (disch := omega) [go_sem, -List.getD_eq_getElem?_getD, ite_yes, ht, hyi, hyl, hac, hacn, hacc, hfs, hfu, hfo, hjn, c1, c2, c3, s2]
              first | refine AAt.of (by first | exact SubH.refl | exact SubH.app | exact SubH.both (by simp [subL])) ?_ | (refine ⟨?_, AAt.of (by first | exact SubH.refl | exact SubH.app | exact SubH.both (by simp [subL])) ?_⟩; · omega)
              refine AAny.two 5 5 12 (by kernel_rfl) (by kernel_rfl) (by kernel_rfl) ?_ ?_
              · simp -dsimp -implicitDefEqProofs (disch := omega) [go_sem, -List.getD_eq_getElem?_getD, ite_yes, ht, hyi, hyl, hac, hacn, hacc, hfs, hfu, hfo, hjn, c1, c2, c3, s2]
                first | refine AAt.of (by first | exact SubH.refl | exact SubH.app | exact SubH.both (by simp [subL])) ?_ | (refine ⟨?_, AAt.of (by first | exact SubH.refl | exact SubH.app | exact SubH.both (by simp [subL])) ?_⟩; · omega)
                refine AAny.one 4 12 (by kernel_rfl) (by kernel_rfl) (by kernel_rfl) ?_
                simp -dsimp -implicitDefEqProofs (disch := omega) [go_sem, -List.getD_eq_getElem?_getD, ite_yes, ht, hyi, hyl, hac, hacn, hacc, hfs, hfu, hfo, hjn, c1, c2, c3, s2]
                first | refine AAt.of (by first | exact SubH.refl | exact SubH.app | exact SubH.both (by simp [subL])) ?_ | (refine ⟨?_, AAt.of (by first | exact SubH.refl | exact SubH.app | exact SubH.both (by simp [subL])) ?_⟩; · omega)
                refine AAny.one 3 13 (by kernel_rfl) (by kernel_rfl) (by kernel_rfl) ?_
                simp -dsimp -implicitDefEqProofs (disch := omega) [go_sem, -List.getD_eq_getElem?_getD, ite_yes, ht, hyi, hyl, hac, hacn, hacc, hfs, hfu, hfo, hjn, c1, c2, c3, s2]
                first | refine AAt.of (by first | exact SubH.refl | exact SubH.app | exact SubH.both (by simp [subL])) ?_ | (refine ⟨?_, AAt.of (by first | exact SubH.refl | exact SubH.app | exact SubH.both (by simp [subL])) ?_⟩; · omega)
                refine AAny.takes (fuel := 2) (by kernel_rfl) (by kernel_rfl) [14] (by kernel_rfl) (by kernel_rfl) ?_
                simp -dsimp -implicitDefEqProofs (disch := omega) [go_sem, -List.getD_eq_getElem?_getD, ite_yes, ht, hyi, hyl, hac, hacn, hacc, hfs, hfu, hfo, hjn, c1, c2, c3, s2]
                refine AAny.one 1 15 (by kernel_rfl) (by kernel_rfl) (by kernel_rfl) ?_
                simp -dsimp -implicitDefEqProofs (disch := omega) [go_sem, -List.getD_eq_getElem?_getD, ite_yes, ht, hyi, hyl, hac, hacn, hacc, hfs, hfu, hfo, hjn, c1, c2, c3, s2]
                first | refine AAt.of (by first | exact SubH.refl | exact SubH.app | exact SubH.both (by simp [subL])) ?_ | (refine ⟨?_, AAt.of (by first | exact SubH.refl | exact SubH.app | exact SubH.both (by simp [subL])) ?_⟩; · omega)
                refine AAny.one 0 16 (by kernel_rfl) (by kernel_rfl) (by kernel_rfl) ?_
                simp -dsimp -implicitDefEqProofs (disch := omega) [go_sem, -List.getD_eq_getElem?_getD, ite_yes, ht, hyi, hyl, hac, hacn, hacc, hfs, hfu, hfo, hjn, c1, c2, c3, s2]
                first | refine AAt.of (by first | exact SubH.refl | exact SubH.app | exact SubH.both (by simp [subL])) ?_ | (refine ⟨?_, AAt.of (by first | exact SubH.refl | exact SubH.app | exact SubH.both (by simp [subL])) ?_⟩; · omega)
                refine AAny.done (by kernel_rfl) ?_
                simp -dsimp -implicitDefEqProofs (disch := omega) [go_sem, -List.getD_eq_getElem?_getD, ite_yes, ht, hyi, hyl, hac, hacn, hacc, hfs, hfu, hfo, hjn, c1, c2, c3, s2]
                refine LoopEnd.of (j + 1) (by omega) (by omega) (weakS_mk [some 0, some 1, some 2] rfl ?_ (by simp -dsimp -implicitDefEqProofs (disch := omega) [go_sem, -List.getD_eq_getElem?_getD, ite_yes, ht]))
                simp -dsimp -implicitDefEqProofs (disch := omega) [go_sem, -List.getD_eq_getElem?_getD, ite_yes]
                exact ⟨.inl ⟨rfl, nmE_flat _⟩, .inl ⟨by rw [e], nmE_flat _⟩, .inl ⟨by rw [e], nmE_flat _⟩⟩
              · simp -dsimp -implicitDefEqProofs (disch := omega) [go_sem, -List.getD_eq_getElem?_getD, ite_yes, ht, hyi, hyl, hac, hacn, hacc, hfs, hfu, hfo, hjn, c1, c2, c3, s2]
                first | refine AAt.of (by first | exact SubH.refl | exact SubH.app | exact SubH.both (by simp [subL])) ?_ | (refine ⟨?_, AAt.of (by first | exact SubH.refl | exact SubH.app | exact SubH.both (by simp [subL])) ?_⟩; · omega)
                refine AAny.two 4 5 13 (by kernel_rfl) (by kernel_rfl) (by kernel_rfl) ?_ ?_
                · simp -dsimp -implicitDefEqProofs (disch := omega) [go_sem, -List.getD_eq_getElem?_getD, ite_yes, ht, hyi, hyl, hac, hacn, hacc, hfs, hfu, hfo, hjn, c1, c2, c3, s2]
                  first | refine AAt.of (by first | exact SubH.refl | exact SubH.app | exact SubH.both (by simp [subL])) ?_ | (refine ⟨?_, AAt.of (by first | exact SubH.refl | exact SubH.app | exact SubH.both (by simp [subL])) ?_⟩; · omega)
                  refine AAny.one 3 13 (by kernel_rfl) (by kernel_rfl) (by kernel_rfl) ?_
                  simp -dsimp -implicitDefEqProofs (disch := omega) [go_sem, -List.getD_eq_getElem?_getD, ite_yes, ht, hyi, hyl, hac, hacn, hacc, hfs, hfu, hfo, hjn, c1, c2, c3, s2]
                  first | refine AAt.of (by first | exact SubH.refl | exact SubH.app | exact SubH.both (by simp [subL])) ?_ | (refine ⟨?_, AAt.of (by first | exact SubH.refl | exact SubH.app | exact SubH.both (by simp [subL])) ?_⟩; · omega)
                  refine AAny.takes (fuel := 2) (by kernel_rfl) (by kernel_rfl) [14] (by kernel_rfl) (by kernel_rfl) ?_
                  simp -dsimp -implicitDefEqProofs (disch := omega) [go_sem, -List.getD_eq_getElem?_getD, ite_yes, ht, hyi, hyl, hac, hacn, hacc, hfs, hfu, hfo, hjn, c1, c2, c3, s2]
                  refine AAny.one 1 15 (by kernel_rfl) (by kernel_rfl) (by kernel_rfl) ?_
                  simp -dsimp -implicitDefEqProofs (disch := omega) [go_sem, -List.getD_eq_getElem?_getD, ite_yes, ht, hyi, hyl, hac, hacn, hacc, hfs, hfu, hfo, hjn, c1, c2, c3, s2]
                  first | refine AAt.of (by first | exact SubH.refl | exact SubH.app | exact SubH.both (by simp [subL])) ?_ | (refine ⟨?_, AAt.of (by first | exact SubH.refl | exact SubH.app | exact SubH.both (by simp [subL])) ?_⟩; · omega)
                  refine AAny.one 0 16 (by kernel_rfl) (by kernel_rfl) (by kernel_rfl) ?_
                  simp -dsimp -implicitDefEqProofs (disch := omega) [go_sem, -List.getD_eq_getElem?_getD, ite_yes, ht, hyi, hyl, hac, hacn, hacc, hfs, hfu, hfo, hjn, c1, c2, c3, s2]
                  first | refine AAt.of (by first | exact SubH.refl | exact SubH.app | exact SubH.both (by simp [subL])) ?_ | (refine ⟨?_, AAt.of (by first | exact SubH.refl | exact SubH.app | exact SubH.both (by simp [subL])) ?_⟩; · omega)
                  refine AAny.done (by kernel_rfl) ?_
                  simp -dsimp -implicitDefEqProofs (disch := omega) [go_sem, -List.getD_eq_getElem?_getD, ite_yes, ht, hyi, hyl, hac, hacn, hacc, hfs, hfu, hfo, hjn, c1, c2, c3, s2]
                  refine LoopEnd.of (j + 1) (by omega) (by omega) (weakS_mk [some 0, some 1, some 2] rfl ?_ (by simp -dsimp -implicitDefEqProofs (disch := omega) [go_sem, -List.getD_eq_getElem?_getD, ite_yes, ht]))
                  simp -dsimp -implicitDefEqProofs (disch := omega) [go_sem, -List.getD_eq_getElem?_getD, ite_yes]
                  exact ⟨.inl ⟨rfl, nmE_flat _⟩, .inl ⟨by rw [e], nmE_flat _⟩, .inl ⟨by rw [e], nmE_flat _⟩⟩
                · simp -dsimp -implicitDefEqProofs (disch := omega) [go_sem, -List.getD_eq_getElem?_getD, ite_yes, ht, hyi, hyl, hac, hacn, hacc, hfs, hfu, hfo, hjn, c1, c2, c3, s2]
                  first | refine AAt.of (by first | exact SubH.refl | exact SubH.app | exact SubH.both (by simp [subL])) ?_ | (refine ⟨?_, AAt.of (by first | exact SubH.refl | exact SubH.app | exact SubH.both (by simp [subL])) ?_⟩; · omega)
                  refine AAny.one 3 5 (by kernel_rfl) (by kernel_rfl) (by kernel_rfl) ?_
                  simp -dsimp -implicitDefEqProofs (disch := omega) [go_sem, -List.getD_eq_getElem?_getD, ite_yes, ht, hyi, hyl, hac, hacn, hacc, hfs, hfu, hfo, hjn, c1, c2, c3, s2]
                  first | refine AAt.of (by first | exact SubH.refl | exact SubH.app | exact SubH.both (by simp [subL])) ?_ | (refine ⟨?_, AAt.of (by first | exact SubH.refl | exact SubH.app | exact SubH.both (by simp [subL])) ?_⟩; · omega)
                  refine AAny.takes (fuel := 2) (by kernel_rfl) (by kernel_rfl) [14] (by kernel_rfl) (by kernel_rfl) ?_
                  simp -dsimp -implicitDefEqProofs (disch := omega) [go_sem, -List.getD_eq_getElem?_getD, ite_yes, ht, hyi, hyl, hac, hacn, hacc, hfs, hfu, hfo, hjn, c1, c2, c3, s2]
                  refine AAny.one 1 15 (by kernel_rfl) (by kernel_rfl) (by kernel_rfl) ?_
                  simp -dsimp -implicitDefEqProofs (disch := omega) [go_sem, -List.getD_eq_getElem?_getD, ite_yes, ht, hyi, hyl, hac, hacn, hacc, hfs, hfu, hfo, hjn, c1, c2, c3, s2]
                  first | refine AAt.of (by first | exact SubH.refl | exact SubH.app | exact SubH.both (by simp [subL])) ?_ | (refine ⟨?_, AAt.of (by first | exact SubH.refl | exact SubH.app | exact SubH.both (by simp [subL])) ?_⟩; · omega)
                  refine AAny.one 0 16 (by kernel_rfl) (by kernel_rfl) (by kernel_rfl) ?_
                  simp -dsimp -implicitDefEqProofs (disch := omega) [go_sem, -List.getD_eq_getElem?_getD, ite_yes, ht, hyi, hyl, hac, hacn, hacc, hfs, hfu, hfo, hjn, c1, c2, c3, s2]
                  first | refine AAt.of (by first | exact SubH.refl | exact SubH.app | exact SubH.both (by simp [subL])) ?_ | (refine ⟨?_, AAt.of (by first | exact SubH.refl | exact SubH.app | exact SubH.both (by simp [subL])) ?_⟩; · omega)
                  refine AAny.done (by kernel_rfl) ?_
                  simp -dsimp -implicitDefEqProofs (disch := omega) [go_sem, -List.getD_eq_getElem?_getD, ite_yes, ht, hyi, hyl, hac, hacn, hacc, hfs, hfu, hfo, hjn, c1, c2, c3, s2]
                  refine LoopEnd.of (j + 1) (by omega) (by omega) (weakS_mk [some 0, some 1, some 2] rfl ?_ (by simp -dsimp -implicitDefEqProofs (disch := omega) [go_sem, -List.getD_eq_getElem?_getD, ite_yes, ht]))
                  simp -dsimp -implicitDefEqProofs (disch := omega) [go_sem, -List.getD_eq_getElem?_getD, ite_yes]
                  exact ⟨.inl ⟨rfl, nmE_flat _⟩, .inl ⟨by rw [e], nmE_flat _⟩, .inl ⟨by rw [e], nmE_flat _⟩⟩
        · simp -dsimp -implicitDefEqProofs (disch := omega) [go_sem, -List.getD_eq_getElem?_getD, ite_yes, ht, hyi, hyl, hac, hacn, hacc, hfs, hfu, hfo, hjn, c1, c2, c3, s2]
          first | refine AAt.of (by first | exact SubH.refl | exact SubH.app | exact SubH.both (by simp [subL])) ?_ | (refine ⟨?_, AAt.of (by first | exact SubH.refl | exact SubH.app | exact SubH.both (by simp [subL])) ?_⟩; · omega)
          refine AAny.two 7 4 11 (by kernel_rfl) (by kernel_rfl) (by kernel_rfl) ?_ ?_
          · simp -dsimp -implicitDefEqProofs (disch := omega) [go_sem, -List.getD_eq_getElem?_getD, ite_yes, ht, hyi, hyl, hac, hacn, hacc, hfs, hfu, hfo, hjn, c1, c2, c3, s2]
            first | refine AAt.of (by first | exact SubH.refl | exact SubH.app | exact SubH.both (by simp [subL])) ?_ | (refine ⟨?_, AAt.of (by first | exact SubH.refl | exact SubH.app | exact SubH.both (by simp [subL])) ?_⟩; · omega)
            refine AAny.two 6 5 11 (by kernel_rfl) (by kernel_rfl) (by kernel_rfl) ?_ ?_
            · simp -dsimp -implicitDefEqProofs (disch := omega) [go_sem, -List.getD_eq_getElem?_getD, ite_yes, ht, hyi, hyl, hac, hacn, hacc, hfs, hfu, hfo, hjn, c1, c2, c3, s2]
              first | refine AAt.of (by first | exact SubH.refl | exact SubH.app | exact SubH.both (by simp [subL])) ?_ | (refine ⟨?_, AAt.of (by first | exact SubH.refl | exact SubH.app | exact SubH.both (by simp [subL])) ?_⟩; · omega)
              refine AAny.one 5 11 (by kernel_rfl) (by kernel_rfl) (by kernel_rfl) ?_
              simp -dsimp -implicitDefEqProofs (disch := omega) [go_sem, -List.getD_eq_getElem?_getD, ite_yes, ht, hyi, hyl, hac, hacn, hacc, hfs, hfu, hfo, hjn, c1, c2, c3, s2]
              first | refine AAt.of (by first | exact SubH.refl | exact SubH.app | exact SubH.both (by simp [subL])) ?_ | (refine ⟨?_, AAt.of (by first | exact SubH.refl | exact SubH.app | exact SubH.both (by simp [subL])) ?_⟩; · omega)
              refine AAny.one 4 12 (by kernel_rfl) (by kernel_rfl) (by kernel_rfl) ?_
              simp -dsimp -implicitDefEqProofs (disch := omega) [go_sem, -List.getD_eq_getElem?_getD, ite_yes, ht, hyi, hyl, hac, hacn, hacc, hfs, hfu, hfo, hjn, c1, c2, c3, s2]
              first | refine AAt.of (by first | exact SubH.refl | exact SubH.app | exact SubH.both (by simp [subL])) ?_ | (refine ⟨?_, AAt.of (by first | exact SubH.refl | exact SubH.app | exact SubH.both (by simp [subL])) ?_⟩; · omega)
              refine AAny.one 3 13 (by kernel_rfl) (by kernel_rfl) (by kernel_rfl) ?_
              simp -dsimp -implicitDefEqProofs (disch := omega) [go_sem, -List.getD_eq_getElem?_getD, ite_yes, ht, hyi, hyl, hac, hacn, hacc, hfs, hfu, hfo, hjn, c1, c2, c3, s2]
              first | refine AAt.of (by first | exact SubH.refl | exact SubH.app | exact SubH.both (by simp [subL])) ?_ | (refine ⟨?_, AAt.of (by first | exact SubH.refl | exact SubH.app | exact SubH.both (by simp [subL])) ?_⟩; · omega)
              refine AAny.takes (fuel := 2) (by kernel_rfl) (by kernel_rfl) [14] (by kernel_rfl) (by kernel_rfl) ?_
              simp -dsimp -implicitDefEqProofs (disch := omega) [go_sem, -List.getD_eq_getElem?_getD, ite_yes, ht, hyi, hyl, hac, hacn, hacc, hfs, hfu, hfo, hjn, c1, c2, c3, s2]
              refine AAny.one 1 15 (by kernel_rfl) (by kernel_rfl) (by kernel_rfl) ?_
              simp -dsimp -implicitDefEqProofs (disch := omega) [go_sem, -List.getD_eq_getElem?_getD, ite_yes, ht, hyi, hyl, hac, hacn, hacc, hfs, hfu, hfo, hjn, c1, c2, c3, s2]
              first | refine AAt.of (by first | exact SubH.refl | exact SubH.app | exact SubH.both (by simp [subL])) ?_ | (refine ⟨?_, AAt.of (by first | exact SubH.refl | exact SubH.app | exact SubH.both (by simp [subL])) ?_⟩; · omega)
              refine AAny.one 0 16 (by kernel_rfl) (by kernel_rfl) (by kernel_rfl) ?_
              simp -dsimp -implicitDefEqProofs (disch := omega) [go_sem, -List.getD_eq_getElem?_getD, ite_yes, ht, hyi, hyl, hac, hacn, hacc, hfs, hfu, hfo, hjn, c1, c2, c3, s2]
              first | refine AAt.of (by first | exact SubH.refl | exact SubH.app | exact SubH.both (by simp [subL])) ?_ | (refine ⟨?_, AAt.of (by first | exact SubH.refl | exact SubH.app | exact SubH.both (by simp [subL])) ?_⟩; · omega)
              refine AAny.done (by kernel_rfl) ?_
              simp -dsimp -implicitDefEqProofs (disch := omega) [go_sem, -List.getD_eq_getElem?_getD, ite_yes, ht, hyi, hyl, hac, hacn, hacc, hfs, hfu, hfo, hjn, c1, c2, c3, s2]
              refine LoopEnd.of (j + 1) (by omega) (by omega) (weakS_mk [some 0, some 1, some 2] rfl ?_ (by simp -dsimp -implicitDefEqProofs (disch := omega) [go_sem, -List.getD_eq_getElem?_getD, ite_yes, ht]))
              simp -dsimp -implicitDefEqProofs (disch := omega) [go_sem, -List.getD_eq_getElem?_getD, ite_yes]
              exact ⟨.inl ⟨rfl, nmE_flat _⟩, .inl ⟨by rw [e], nmE_flat _⟩, .inl ⟨by rw [e], nmE_flat _⟩⟩
            · simp -dsimp -implicitDefEqProofs (disch := omega) [go_sem, -List.getD_eq_getElem?_getD, ite_yes, ht, hyi, hyl, hac, hacn, hacc, hfs, hfu, hfo, hjn, c1, c2, c3, s2]
              first | refine AAt.of (by first | exact SubH.refl | exact SubH.app | exact SubH.both (by simp [subL])) ?_ | (refine ⟨?_, AAt.of (by first | exact SubH.refl | exact SubH.app | exact SubH.both (by simp [subL])) ?_⟩; · omega)
              refine AAny.two 5 5 12 (by kernel_rfl) (by kernel_rfl) (by kernel_rfl) ?_ ?_
              · simp -dsimp -implicitDefEqProofs (disch := omega) [go_sem, -List.getD_eq_getElem?_getD, ite_yes, ht, hyi, hyl, hac, hacn, hacc, hfs, hfu, hfo, hjn, c1, c2, c3, s2]
                first | refine AAt.of (by first | exact SubH.refl | exact SubH.app | exact SubH.both (by simp [subL])) ?_ | (refine ⟨?_, AAt.of (by first | exact SubH.refl | exact SubH.app | exact SubH.both (by simp [subL])) ?_⟩; · omega)
                refine AAny.one 4 12 (by kernel_rfl) (by kernel_rfl) (by kernel_rfl) ?_
                simp -dsimp -implicitDefEqProofs (disch := omega) [go_sem, -List.getD_eq_getElem?_getD, ite_yes, ht, hyi, hyl, hac, hacn, hacc, hfs, hfu, hfo, hjn, c1, c2, c3, s2]
                first | refine AAt.of (by first | exact SubH.refl | exact SubH.app | exact SubH.both (by simp [subL])) ?_ | (refine ⟨?_, AAt.of (by first | exact SubH.refl | exact SubH.app | exact SubH.both (by simp [subL])) ?_⟩; · omega)
                refine AAny.one 3 13 (by kernel_rfl) (by kernel_rfl) (by kernel_rfl) ?_
                simp -dsimp -implicitDefEqProofs (disch := omega) [go_sem, -List.getD_eq_getElem?_getD, ite_yes, ht, hyi, hyl, hac, hacn, hacc, hfs, hfu, hfo, hjn, c1, c2, c3, s2]
                first | refine AAt.of (by first | exact SubH.refl | exact SubH.app | exact SubH.both (by simp [subL])) ?_ | (refine ⟨?_, AAt.of (by first | exact SubH.refl | exact SubH.app | exact SubH.both (by simp [subL])) ?_⟩; · omega)
                refine AAny.takes (fuel := 2) (by kernel_rfl) (by kernel_rfl) [14] (by kernel_rfl) (by kernel_rfl) ?_
                simp -dsimp -implicitDefEqProofs (disch := omega) [go_sem, -List.getD_eq_getElem?_getD, ite_yes, ht, hyi, hyl, hac, hacn, hacc, hfs, hfu, hfo, hjn, c1, c2, c3, s2]
                refine AAny.one 1 15 (by kernel_rfl) (by kernel_rfl) (by kernel_rfl) ?_
                simp -dsimp -implicitDefEqProofs (disch := omega) [go_sem, -List.getD_eq_getElem?_getD, ite_yes, ht, hyi, hyl, hac, hacn, hacc, hfs, hfu, hfo, hjn, c1, c2, c3, s2]
                first | refine AAt.of (by first | exact SubH.refl | exact SubH.app | exact SubH.both (by simp [subL])) ?_ | (refine ⟨?_, AAt.of (by first | exact SubH.refl | exact SubH.app | exact SubH.both (by simp [subL])) ?_⟩; · omega)
                refine AAny.one 0 16 (by kernel_rfl) (by kernel_rfl) (by kernel_rfl) ?_
                simp -dsimp -implicitDefEqProofs (disch := omega) [go_sem, -List.getD_eq_getElem?_getD, ite_yes, ht, hyi, hyl, hac, hacn, hacc, hfs, hfu, hfo, hjn, c1, c2, c3, s2]
                first | refine AAt.of (by first | exact SubH.refl | exact SubH.app | exact SubH.both (by simp [subL])) ?_ | (refine ⟨?_, AAt.of (by first | exact SubH.refl | exact SubH.app | exact SubH.both (by simp [subL])) ?_⟩; · omega)
                refine AAny.done (by kernel_rfl) ?_
                simp -dsimp -implicitDefEqProofs (disch := omega) [go_sem, -List.getD_eq_getElem?_getD, ite_yes, ht, hyi, hyl, hac, hacn, hacc, hfs, hfu, hfo, hjn, c1, c2, c3, s2]
                refine LoopEnd.of (j + 1) (by omega) (by omega) (weakS_mk [some 0, some 1, some 2] rfl ?_ (by simp -dsimp -implicitDefEqProofs (disch := omega) [go_sem, -List.getD_eq_getElem?_getD, ite_yes, ht]))
                simp -dsimp -implicitDefEqProofs (disch := omega) [go_sem, -List.getD_eq_getElem?_getD, ite_yes]
                exact ⟨.inl ⟨rfl, nmE_flat _⟩, .inl ⟨by rw [e], nmE_flat _⟩, .inl ⟨by rw [e], nmE_flat _⟩⟩
              · simp -dsimp -implicitDefEqProofs (disch := omega) [go_sem, -List.getD_eq_getElem?_getD, ite_yes, ht, hyi, hyl, hac, hacn, hacc, hfs, hfu, hfo, hjn, c1, c2, c3, s2]
                first | refine AAt.of (by first | exact SubH.refl | exact SubH.app | exact SubH.both (by simp [subL])) ?_ | (refine ⟨?_, AAt.of (by first | exact SubH.refl | exact SubH.app | exact SubH.both (by simp [subL])) ?_⟩; · omega)
                refine AAny.two 4 5 13 (by kernel_rfl) (by kernel_rfl) (by kernel_rfl) ?_ ?_
                · simp -dsimp -implicitDefEqProofs (disch := omega) [go_sem, -List.getD_eq_getElem?_getD, ite_yes, ht, hyi, hyl, hac, hacn, hacc, hfs, hfu, hfo, hjn, c1, c2, c3, s2]
                  first | refine AAt.of (by first | exact SubH.refl | exact SubH.app | exact SubH.both (by simp [subL])) ?_ | (refine ⟨?_, AAt.of (by first | exact SubH.refl | exact SubH.app | exact SubH.both (by simp [subL])) ?_⟩; · omega)
                  refine AAny.one 3 13 (by kernel_rfl) (by kernel_rfl) (by kernel_rfl) ?_
                  simp -dsimp -implicitDefEqProofs (disch := omega) [go_sem, -List.getD_eq_getElem?_getD, ite_yes, ht, hyi, hyl, hac, hacn, hacc, hfs, hfu, hfo, hjn, c1, c2, c3, s2]
                  first | refine AAt.of (by first | exact SubH.refl | exact SubH.app | exact SubH.both (by simp [subL])) ?_ | (refine ⟨?_, AAt.of (by first | exact SubH.refl | exact SubH.app | exact SubH.both (by simp [subL])) ?_⟩; · omega)
                  refine AAny.takes (fuel := 2) (by kernel_rfl) (by kernel_rfl) [14] (by kernel_rfl) (by kernel_rfl) ?_
                  simp -dsimp -implicitDefEqProofs (disch := omega) [go_sem, -List.getD_eq_getElem?_getD, ite_yes, ht, hyi, hyl, hac, hacn, hacc, hfs, hfu, hfo, hjn, c1, c2, c3, s2]
                  refine AAny.one 1 15 (by kernel_rfl) (by kernel_rfl) (by kernel_rfl) ?_
                  simp -dsimp -implicitDefEqProofs (disch := omega) [go_sem, -List.getD_eq_getElem?_getD, ite_yes, ht, hyi, hyl, hac, hacn, hacc, hfs, hfu, hfo, hjn, c1, c2, c3, s2]
                  first | refine AAt.of (by first | exact SubH.refl | exact SubH.app | exact SubH.both (by simp [subL])) ?_ | (refine ⟨?_, AAt.of (by first | exact SubH.refl | exact SubH.app | exact SubH.both (by simp [subL])) ?_⟩; · omega)
                  refine AAny.one 0 16 (by kernel_rfl) (by kernel_rfl) (by kernel_rfl) ?_
                  simp -dsimp -implicitDefEqProofs (disch := omega) [go_sem, -List.getD_eq_getElem?_getD, ite_yes, ht, hyi, hyl, hac, hacn, hacc, hfs, hfu, hfo, hjn, c1, c2, c3, s2]
                  first | refine AAt.of (by first | exact SubH.refl | exact SubH.app | exact SubH.both (by simp [subL])) ?_ | (refine ⟨?_, AAt.of (by first | exact SubH.refl | exact SubH.app | exact SubH.both (by simp [subL])) ?_⟩; · omega)
                  refine AAny.done (by kernel_rfl) ?_
                  simp -dsimp -implicitDefEqProofs (disch := omega) [go_sem, -List.getD_eq_getElem?_getD, ite_yes, ht, hyi, hyl, hac, hacn, hacc, hfs, hfu, hfo, hjn, c1, c2, c3, s2]
                  refine LoopEnd.of (j + 1) (by omega) (by omega) (weakS_mk [some 0, some 1, some 2] rfl ?_ (by simp -dsimp -implicitDefEqProofs (disch := omega) [go_sem, -List.getD_eq_getElem?_getD, ite_yes, ht]))
                  simp -dsimp -implicitDefEqProofs (disch := omega) [go_sem, -List.getD_eq_getElem?_getD, ite_yes]
                  exact ⟨.inl ⟨rfl, nmE_flat _⟩, .inl ⟨by rw [e], nmE_flat _⟩, .inl ⟨by rw [e], nmE_flat _⟩⟩
                · simp -dsimp -implicitDefEqProofs (disch := omega) [go_sem, -List.getD_eq_getElem?_getD, ite_yes, ht, hyi, hyl, hac, hacn, hacc, hfs, hfu, hfo, hjn, c1, c2, c3, s2]
                  first | refine AAt.of (by first | exact SubH.refl | exact SubH.app | exact SubH.both (by simp [subL])) ?_ | (refine ⟨?_, AAt.of (by first | exact SubH.refl | exact SubH.app | exact SubH.both (by simp [subL])) ?_⟩; · omega)
                  refine AAny.one 3 5 (by kernel_rfl) (by kernel_rfl) (by kernel_rfl) ?_
                  simp -dsimp -implicitDefEqProofs (disch := omega) [go_sem, -List.getD_eq_getElem?_getD, ite_yes, ht, hyi, hyl, hac, hacn, hacc, hfs, hfu, hfo, hjn, c1, c2, c3, s2]
                  first | refine AAt.of (by first | exact SubH.refl | exact SubH.app | exact SubH.both (by simp [subL])) ?_ | (refine ⟨?_, AAt.of (by first | exact SubH.refl | exact SubH.app | exact SubH.both (by simp [subL])) ?_⟩; · omega)
                  refine AAny.takes (fuel := 2) (by kernel_rfl) (by kernel_rfl) [14] (by kernel_rfl) (by kernel_rfl) ?_
                  simp -dsimp -implicitDefEqProofs (disch := omega) [go_sem, -List.getD_eq_getElem?_getD, ite_yes, ht, hyi, hyl, hac, hacn, hacc, hfs, hfu, hfo, hjn, c1, c2, c3, s2]
                  refine AAny.one 1 15 (by kernel_rfl) (by kernel_rfl) (by kernel_rfl) ?_
                  simp -dsimp -implicitDefEqProofs (disch := omega) [go_sem, -List.getD_eq_getElem?_getD, ite_yes, ht, hyi, hyl, hac, hacn, hacc, hfs, hfu, hfo, hjn, c1, c2, c3, s2]
                  first | refine AAt.of (by first | exact SubH.refl | exact SubH.app | exact SubH.both (by simp [subL])) ?_ | (refine ⟨?_, AAt.of (by first | exact SubH.refl | exact SubH.app | exact SubH.both (by simp [subL])) ?_⟩; · omega)
                  refine AAny.one 0 16 (by kernel_rfl) (by kernel_rfl) (by kernel_rfl) ?_
                  simp -dsimp -implicitDefEqProofs (disch := omega) [go_sem, -List.getD_eq_getElem?_getD, ite_yes, ht, hyi, hyl, hac, hacn, hacc, hfs, hfu, hfo, hjn, c1, c2, c3, s2]
                  first | refine AAt.of (by first | exact SubH.refl | exact SubH.app | exact SubH.both (by simp [subL])) ?_ | (refine ⟨?_, AAt.of (by first | exact SubH.refl | exact SubH.app | exact SubH.both (by simp [subL])) ?_⟩; · omega)
                  refine AAny.done (by kernel_rfl) ?_
                  simp -dsimp -implicitDefEqProofs (disch := omega) [go_sem, -List.getD_eq_getElem?_getD, ite_yes, ht, hyi, hyl, hac, hacn, hacc, hfs, hfu, hfo, hjn, c1, c2, c3, s2]
                  refine LoopEnd.of (j + 1) (by omega) (by omega) (weakS_mk [some 0, some 1, some 2] rfl ?_ (by simp -dsimp -implicitDefEqProofs (disch := omega) [go_sem, -List.getD_eq_getElem?_getD, ite_yes, ht]))
                  simp -dsimp -implicitDefEqProofs (disch := omega) [go_sem, -List.getD_eq_getElem?_getD, ite_yes]
                  exact ⟨.inl ⟨rfl, nmE_flat _⟩, .inl ⟨by rw [e], nmE_flat _⟩, .inl ⟨by rw [e], nmE_flat _⟩⟩
          · simp -dsimp -implicitDefEqProofs (disch := omega) [go_sem, -List.getD_eq_getElem?_getD, ite_yes, ht, hyi, hyl, hac, hacn, hacc, hfs, hfu, hfo, hjn, c1, c2, c3, s2]
            first | refine AAt.of (by first | exact SubH.refl | exact SubH.app | exact SubH.both (by simp [subL])) ?_ | (refine ⟨?_, AAt.of (by first | exact SubH.refl | exact SubH.app | exact SubH.both (by simp [subL])) ?_⟩; · omega)
            refine AAny.two 6 4 12 (by kernel_rfl) (by kernel_rfl) (by kernel_rfl) ?_ ?_
            · simp -dsimp -implicitDefEqProofs (disch := omega) [go_sem, -List.getD_eq_getElem?_getD, ite_yes, ht, hyi, hyl, hac, hacn, hacc, hfs, hfu, hfo, hjn, c1, c2, c3, s2]
              first | refine AAt.of (by first | exact SubH.refl | exact SubH.app | exact SubH.both (by simp [subL])) ?_ | (refine ⟨?_, AAt.of (by first | exact SubH.refl | exact SubH.app | exact SubH.both (by simp [subL])) ?_⟩; · omega)
              refine AAny.two 5 5 12 (by kernel_rfl) (by kernel_rfl) (by kernel_rfl) ?_ ?_
              · simp -dsimp -implicitDefEqProofs (disch := omega) [go_sem, -List.getD_eq_getElem?_getD, ite_yes, ht, hyi, hyl, hac, hacn, hacc, hfs, hfu, hfo, hjn, c1, c2, c3, s2]
                first | refine AAt.of (by first | exact SubH.refl | exact SubH.app | exact SubH.both (by simp [subL])) ?_ | (refine ⟨?_, AAt.of (by first | exact SubH.refl | exact SubH.app | exact SubH.both (by simp [subL])) ?_⟩; · omega)
                refine AAny.one 4 12 (by kernel_rfl) (by kernel_rfl) (by kernel_rfl) ?_
                simp -dsimp -implicitDefEqProofs (disch := omega) [go_sem, -List.getD_eq_getElem?_getD, ite_yes, ht, hyi, hyl, hac, hacn, hacc, hfs, hfu, hfo, hjn, c1, c2, c3, s2]
                first | refine AAt.of (by first | exact SubH.refl | exact SubH.app | exact SubH.both (by simp [subL])) ?_ | (refine ⟨?_, AAt.of (by first | exact SubH.refl | exact SubH.app | exact SubH.both (by simp [subL])) ?_⟩; · omega)
                refine AAny.one 3 13 (by kernel_rfl) (by kernel_rfl) (by kernel_rfl) ?_
                simp -dsimp -implicitDefEqProofs (disch := omega) [go_sem, -List.getD_eq_getElem?_getD, ite_yes, ht, hyi, hyl, hac, hacn, hacc, hfs, hfu, hfo, hjn, c1, c2, c3, s2]
                first | refine AAt.of (by first | exact SubH.refl | exact SubH.app | exact SubH.both (by simp [subL])) ?_ | (refine ⟨?_, AAt.of (by first | exact SubH.refl | exact SubH.app | exact SubH.both (by simp [subL])) ?_⟩; · omega)
                refine AAny.takes (fuel := 2) (by kernel_rfl) (by kernel_rfl) [14] (by kernel_rfl) (by kernel_rfl) ?_
                simp -dsimp -implicitDefEqProofs (disch := omega) [go_sem, -List.getD_eq_getElem?_getD, ite_yes, ht, hyi, hyl, hac, hacn, hacc, hfs, hfu, hfo, hjn, c1, c2, c3, s2]
                refine AAny.one 1 15 (by kernel_rfl) (by kernel_rfl) (by kernel_rfl) ?_
                simp -dsimp -implicitDefEqProofs (disch := omega) [go_sem, -List.getD_eq_getElem?_getD, ite_yes, ht, hyi, hyl, hac, hacn, hacc, hfs, hfu, hfo, hjn, c1, c2, c3, s2]
                first | refine AAt.of (by first | exact SubH.refl | exact SubH.app | exact SubH.both (by simp [subL])) ?_ | (refine ⟨?_, AAt.of (by first | exact SubH.refl | exact SubH.app | exact SubH.both (by simp [subL])) ?_⟩; · omega)
                refine AAny.one 0 16 (by kernel_rfl) (by kernel_rfl) (by kernel_rfl) ?_
                simp -dsimp -implicitDefEqProofs (disch := omega) [go_sem, -List.getD_eq_getElem?_getD, ite_yes, ht, hyi, hyl, hac, hacn, hacc, hfs, hfu, hfo, hjn, c1, c2, c3, s2]
                first | refine AAt.of (by first | exact SubH.refl | exact SubH.app | exact SubH.both (by simp [subL])) ?_ | (refine ⟨?_, AAt.of (by first | exact SubH.refl | exact SubH.app | exact SubH.both (by simp [subL])) ?_⟩; · omega)
                refine AAny.done (by kernel_rfl) ?_
                simp -dsimp -implicitDefEqProofs (disch := omega) [go_sem, -List.getD_eq_getElem?_getD, ite_yes, ht, hyi, hyl, hac, hacn, hacc, hfs, hfu, hfo, hjn, c1, c2, c3, s2]
                refine LoopEnd.of (j + 1) (by omega) (by omega) (weakS_mk [some 0, some 1, some 2] rfl ?_ (by simp -dsimp -implicitDefEqProofs (disch := omega) [go_sem, -List.getD_eq_getElem?_getD, ite_yes, ht]))
                simp -dsimp -implicitDefEqProofs (disch := omega) [go_sem, -List.getD_eq_getElem?_getD, ite_yes]
                exact ⟨.inl ⟨rfl, nmE_flat _⟩, .inl ⟨by rw [e], nmE_flat _⟩, .inl ⟨by rw [e], nmE_flat _⟩⟩
              · simp -dsimp -implicitDefEqProofs (disch := omega) [go_sem, -List.getD_eq_getElem?_getD, ite_yes, ht, hyi, hyl, hac, hacn, hacc, hfs, hfu, hfo, hjn, c1, c2, c3, s2]
                first | refine AAt.of (by first | exact SubH.refl | exact SubH.app | exact SubH.both (by simp [subL])) ?_ | (refine ⟨?_, AAt.of (by first | exact SubH.refl | exact SubH.app | exact SubH.both (by simp [subL])) ?_⟩; · omega)
                refine AAny.two 4 5 13 (by kernel_rfl) (by kernel_rfl) (by kernel_rfl) ?_ ?_
                · simp -dsimp -implicitDefEqProofs (disch := omega) [go_sem, -List.getD_eq_getElem?_getD, ite_yes, ht, hyi, hyl, hac, hacn, hacc, hfs, hfu, hfo, hjn, c1, c2, c3, s2]
                  first | refine AAt.of (by first | exact SubH.refl | exact SubH.app | exact SubH.both (by simp [subL])) ?_ | (refine ⟨?_, AAt.of (by first | exact SubH.refl | exact SubH.app | exact SubH.both (by simp [subL])) ?_⟩; · omega)
                  refine AAny.one 3 13 (by kernel_rfl) (by kernel_rfl) (by kernel_rfl) ?_
                  simp -dsimp -implicitDefEqProofs (disch := omega) [go_sem, -List.getD_eq_getElem?_getD, ite_yes, ht, hyi, hyl, hac, hacn, hacc, hfs, hfu, hfo, hjn, c1, c2, c3, s2]
                  first | refine AAt.of (by first | exact SubH.refl | exact SubH.app | exact SubH.both (by simp [subL])) ?_ | (refine ⟨?_, AAt.of (by first | exact SubH.refl | exact SubH.app | exact SubH.both (by simp [subL])) ?_⟩; · omega)
                  refine AAny.takes (fuel := 2) (by kernel_rfl) (by kernel_rfl) [14] (by kernel_rfl) (by kernel_rfl) ?_
                  simp -dsimp -implicitDefEqProofs (disch := omega) [go_sem, -List.getD_eq_getElem?_getD, ite_yes, ht, hyi, hyl, hac, hacn, hacc, hfs, hfu, hfo, hjn, c1, c2, c3, s2]
                  refine AAny.one 1 15 (by kernel_rfl) (by kernel_rfl) (by kernel_rfl) ?_
                  simp -dsimp -implicitDefEqProofs (disch := omega) [go_sem, -List.getD_eq_getElem?_getD, ite_yes, ht, hyi, hyl, hac, hacn, hacc, hfs, hfu, hfo, hjn, c1, c2, c3, s2]
                  first | refine AAt.of (by first | exact SubH.refl | exact SubH.app | exact SubH.both (by simp [subL])) ?_ | (refine ⟨?_, AAt.of (by first | exact SubH.refl | exact SubH.app | exact SubH.both (by simp [subL])) ?_⟩; · omega)
                  refine AAny.one 0 16 (by kernel_rfl) (by kernel_rfl) (by kernel_rfl) ?_
                  simp -dsimp -implicitDefEqProofs (disch := omega) [go_sem, -List.getD_eq_getElem?_getD, ite_yes, ht, hyi, hyl, hac, hacn, hacc, hfs, hfu, hfo, hjn, c1, c2, c3, s2]
                  first | refine AAt.of (by first | exact SubH.refl | exact SubH.app | exact SubH.both (by simp [subL])) ?_ | (refine ⟨?_, AAt.of (by first | exact SubH.refl | exact SubH.app | exact SubH.both (by simp [subL])) ?_⟩; · omega)
                  refine AAny.done (by kernel_rfl) ?_
                  simp -dsimp -implicitDefEqProofs (disch := omega) [go_sem, -List.getD_eq_getElem?_getD, ite_yes, ht, hyi, hyl, hac, hacn, hacc, hfs, hfu, hfo, hjn, c1, c2, c3, s2]
                  refine LoopEnd.of (j + 1) (by omega) (by omega) (weakS_mk [some 0, some 1, some 2] rfl ?_ (by simp -dsimp -implicitDefEqProofs (disch := omega) [go_sem, -List.getD_eq_getElem?_getD, ite_yes, ht]))
                  simp -dsimp -implicitDefEqProofs (disch := omega) [go_sem, -List.getD_eq_getElem?_getD, ite_yes]
                  exact ⟨.inl ⟨rfl, nmE_flat _⟩, .inl ⟨by rw [e], nmE_flat _⟩, .inl ⟨by rw [e], nmE_flat _⟩⟩
                · simp -dsimp -implicitDefEqProofs (disch := omega) [go_sem, -List.getD_eq_getElem?_getD, ite_yes, ht, hyi, hyl, hac, hacn, hacc, hfs, hfu, hfo, hjn, c1, c2, c3, s2]
                  first | refine AAt.of (by first | exact SubH.refl | exact SubH.app | exact SubH.both (by simp [subL])) ?_ | (refine ⟨?_, AAt.of (by first | exact SubH.refl | exact SubH.app | exact SubH.both (by simp [subL])) ?_⟩; · omega)
                  refine AAny.one 3 5 (by kernel_rfl) (by kernel_rfl) (by kernel_rfl) ?_
                  simp -dsimp -implicitDefEqProofs (disch := omega) [go_sem, -List.getD_eq_getElem?_getD, ite_yes, ht, hyi, hyl, hac, hacn, hacc, hfs, hfu, hfo, hjn, c1, c2, c3, s2]
                  first | refine AAt.of (by first | exact SubH.refl | exact SubH.app | exact SubH.both (by simp [subL])) ?_ | (refine ⟨?_, AAt.of (by first | exact SubH.refl | exact SubH.app | exact SubH.both (by simp [subL])) ?_⟩; · omega)
                  refine AAny.takes (fuel := 2) (by kernel_rfl) (by kernel_rfl) [14] (by kernel_rfl) (by kernel_rfl) ?_
                  simp -dsimp -implicitDefEqProofs (disch := omega) [go_sem, -List.getD_eq_getElem?_getD, ite_yes, ht, hyi, hyl, hac, hacn, hacc, hfs, hfu, hfo, hjn, c1, c2, c3, s2]
                  refine AAny.one 1 15 (by kernel_rfl) (by kernel_rfl) (by kernel_rfl) ?_
                  simp -dsimp -implicitDefEqProofs (disch := omega) [go_sem, -List.getD_eq_getElem?_getD, ite_yes, ht, hyi, hyl, hac, hacn, hacc, hfs, hfu, hfo, hjn, c1, c2, c3, s2]
                  first | refine AAt.of (by first | exact SubH.refl | exact SubH.app | exact SubH.both (by simp [subL])) ?_ | (refine ⟨?_, AAt.of (by first | exact SubH.refl | exact SubH.app | exact SubH.both (by simp [subL])) ?_⟩; · omega)
                  refine AAny.one 0 16 (by kernel_rfl) (by kernel_rfl) (by kernel_rfl) ?_
                  simp -dsimp -implicitDefEqProofs (disch := omega) [go_sem, -List.getD_eq_getElem?_getD, ite_yes, ht, hyi, hyl, hac, hacn, hacc, hfs, hfu, hfo, hjn, c1, c2, c3, s2]
                  first | refine AAt.of (by first | exact SubH.refl | exact SubH.app | exact SubH.both (by simp [subL])) ?_ | (refine ⟨?_, AAt.of (by first | exact SubH.refl | exact SubH.app | exact SubH.both (by simp [subL])) ?_⟩; · omega)
                  refine AAny.done (by kernel_rfl) ?_
                  simp -dsimp -implicitDefEqProofs (disch := omega) [go_sem, -List.getD_eq_getElem?_getD, ite_yes, ht, hyi, hyl, hac, hacn, hacc, hfs, hfu, hfo, hjn, c1, c2, c3, s2]
                  refine LoopEnd.of (j + 1) (by omega) (by omega) (weakS_mk [some 0, some 1, some 2] rfl ?_ (by simp -dsimp -implicitDefEqProofs (disch := omega) [go_sem, -List.getD_eq_getElem?_getD, ite_yes, ht]))
                  simp -dsimp -implicitDefEqProofs (disch := omega) [go_sem, -List.getD_eq_getElem?_getD, ite_yes]
                  exact ⟨.inl ⟨rfl, nmE_flat _⟩, .inl ⟨by rw [e], nmE_flat _⟩, .inl ⟨by rw [e], nmE_flat _⟩⟩
            · simp -dsimp -implicitDefEqProofs (disch := omega) [go_sem, -List.getD_eq_getElem?_getD, ite_yes, ht, hyi, hyl, hac, hacn, hacc, hfs, hfu, hfo, hjn, c1, c2, c3, s2]
              first | refine AAt.of (by first | exact SubH.refl | exact SubH.app | exact SubH.both (by simp [subL])) ?_ | (refine ⟨?_, AAt.of (by first | exact SubH.refl | exact SubH.app | exact SubH.both (by simp [subL])) ?_⟩; · omega)
              refine AAny.two 5 4 13 (by kernel_rfl) (by kernel_rfl) (by kernel_rfl) ?_ ?_
              · simp -dsimp -implicitDefEqProofs (disch := omega) [go_sem, -List.getD_eq_getElem?_getD, ite_yes, ht, hyi, hyl, hac, hacn, hacc, hfs, hfu, hfo, hjn, c1, c2, c3, s2]
                first | refine AAt.of (by first | exact SubH.refl | exact SubH.app | exact SubH.both (by simp [subL])) ?_ | (refine ⟨?_, AAt.of (by first | exact SubH.refl | exact SubH.app | exact SubH.both (by simp [subL])) ?_⟩; · omega)
                refine AAny.two 4 5 13 (by kernel_rfl) (by kernel_rfl) (by kernel_rfl) ?_ ?_
                · simp -dsimp -implicitDefEqProofs (disch := omega) [go_sem, -List.getD_eq_getElem?_getD, ite_yes, ht, hyi, hyl, hac, hacn, hacc, hfs, hfu, hfo, hjn, c1, c2, c3, s2]
                  first | refine AAt.of (by first | exact SubH.refl | exact SubH.app | exact SubH.both (by simp [subL])) ?_ | (refine ⟨?_, AAt.of (by first | exact SubH.refl | exact SubH.app | exact SubH.both (by simp [subL])) ?_⟩; · omega)
                  refine AAny.one 3 13 (by kernel_rfl) (by kernel_rfl) (by kernel_rfl) ?_
                  simp -dsimp -implicitDefEqProofs (disch := omega) [go_sem, -List.getD_eq_getElem?_getD, ite_yes, ht, hyi, hyl, hac, hacn, hacc, hfs, hfu, hfo, hjn, c1, c2, c3, s2]
                  first | refine AAt.of (by first | exact SubH.refl | exact SubH.app | exact SubH.both (by simp [subL])) ?_ | (refine ⟨?_, AAt.of (by first | exact SubH.refl | exact SubH.app | exact SubH.both (by simp [subL])) ?_⟩; · omega)
                  refine AAny.takes (fuel := 2) (by kernel_rfl) (by kernel_rfl) [14] (by kernel_rfl) (by kernel_rfl) ?_
                  simp -dsimp -implicitDefEqProofs (disch := omega) [go_sem, -List.getD_eq_getElem?_getD, ite_yes, ht, hyi, hyl, hac, hacn, hacc, hfs, hfu, hfo, hjn, c1, c2, c3, s2]
                  refine AAny.one 1 15 (by kernel_rfl) (by kernel_rfl) (by kernel_rfl) ?_
                  simp -dsimp -implicitDefEqProofs (disch := omega) [go_sem, -List.getD_eq_getElem?_getD, ite_yes, ht, hyi, hyl, hac, hacn, hacc, hfs, hfu, hfo, hjn, c1, c2, c3, s2]
                  first | refine AAt.of (by first | exact SubH.refl | exact SubH.app | exact SubH.both (by simp [subL])) ?_ | (refine ⟨?_, AAt.of (by first | exact SubH.refl | exact SubH.app | exact SubH.both (by simp [subL])) ?_⟩; · omega)
                  refine AAny.one 0 16 (by kernel_rfl) (by kernel_rfl) (by kernel_rfl) ?_
                  simp -dsimp -implicitDefEqProofs (disch := omega) [go_sem, -List.getD_eq_getElem?_getD, ite_yes, ht, hyi, hyl, hac, hacn, hacc, hfs, hfu, hfo, hjn, c1, c2, c3, s2]
                  first | refine AAt.of (by first | exact SubH.refl | exact SubH.app | exact SubH.both (by simp [subL])) ?_ | (refine ⟨?_, AAt.of (by first | exact SubH.refl | exact SubH.app | exact SubH.both (by simp [subL])) ?_⟩; · omega)
                  refine AAny.done (by kernel_rfl) ?_
                  simp -dsimp -implicitDefEqProofs (disch := omega) [go_sem, -List.getD_eq_getElem?_getD, ite_yes, ht, hyi, hyl, hac, hacn, hacc, hfs, hfu, hfo, hjn, c1, c2, c3, s2]
                  refine LoopEnd.of (j + 1) (by omega) (by omega) (weakS_mk [some 0, some 1, some 2] rfl ?_ (by simp -dsimp -implicitDefEqProofs (disch := omega) [go_sem, -List.getD_eq_getElem?_getD, ite_yes, ht]))
                  simp -dsimp -implicitDefEqProofs (disch := omega) [go_sem, -List.getD_eq_getElem?_getD, ite_yes]
                  exact ⟨.inl ⟨rfl, nmE_flat _⟩, .inl ⟨by rw [e], nmE_flat _⟩, .inl ⟨by rw [e], nmE_flat _⟩⟩
                · simp -dsimp -implicitDefEqProofs (disch := omega) [go_sem, -List.getD_eq_getElem?_getD, ite_yes, ht, hyi, hyl, hac, hacn, hacc, hfs, hfu, hfo, hjn, c1, c2, c3, s2]
                  first | refine AAt.of (by first | exact SubH.refl | exact SubH.app | exact SubH.both (by simp [subL])) ?_ | (refine ⟨?_, AAt.of (by first | exact SubH.refl | exact SubH.app | exact SubH.both (by simp [subL])) ?_⟩; · omega)
                  refine AAny.one 3 5 (by kernel_rfl) (by kernel_rfl) (by kernel_rfl) ?_
                  simp -dsimp -implicitDefEqProofs (disch := omega) [go_sem, -List.getD_eq_getElem?_getD, ite_yes, ht, hyi, hyl, hac, hacn, hacc, hfs, hfu, hfo, hjn, c1, c2, c3, s2]
                  first | refine AAt.of (by first | exact SubH.refl | exact SubH.app | exact SubH.both (by simp [subL])) ?_ | (refine ⟨?_, AAt.of (by first | exact SubH.refl | exact SubH.app | exact SubH.both (by simp [subL])) ?_⟩; · omega)
                  refine AAny.takes (fuel := 2) (by kernel_rfl) (by kernel_rfl) [14] (by kernel_rfl) (by kernel_rfl) ?_
                  simp -dsimp -implicitDefEqProofs (disch := omega) [go_sem, -List.getD_eq_getElem?_getD, ite_yes, ht, hyi, hyl, hac, hacn, hacc, hfs, hfu, hfo, hjn, c1, c2, c3, s2]
                  refine AAny.one 1 15 (by kernel_rfl) (by kernel_rfl) (by kernel_rfl) ?_
                  simp -dsimp -implicitDefEqProofs (disch := omega) [go_sem, -List.getD_eq_getElem?_getD, ite_yes, ht, hyi, hyl, hac, hacn, hacc, hfs, hfu, hfo, hjn, c1, c2, c3, s2]
                  first | refine AAt.of (by first | exact SubH.refl | exact SubH.app | exact SubH.both (by simp [subL])) ?_ | (refine ⟨?_, AAt.of (by first | exact SubH.refl | exact SubH.app | exact SubH.both (by simp [subL])) ?_⟩; · omega)
                  refine AAny.one 0 16 (by kernel_rfl) (by kernel_rfl) (by kernel_rfl) ?_
                  simp -dsimp -implicitDefEqProofs (disch := omega) [go_sem, -List.getD_eq_getElem?_getD, ite_yes, ht, hyi, hyl, hac, hacn, hacc, hfs, hfu, hfo, hjn, c1, c2, c3, s2]
                  first | refine AAt.of (by first | exact SubH.refl | exact SubH.app | exact SubH.both (by simp [subL])) ?_ | (refine ⟨?_, AAt.of (by first | exact SubH.refl | exact SubH.app | exact SubH.both (by simp [subL])) ?_⟩; · omega)
                  refine AAny.done (by kernel_rfl) ?_
                  simp -dsimp -implicitDefEqProofs (disch := omega) [go_sem, -List.getD_eq_getElem?_getD, ite_yes, ht, hyi, hyl, hac, hacn, hacc, hfs, hfu, hfo, hjn, c1, c2, c3, s2]
                  refine LoopEnd.of (j + 1) (by omega) (by omega) (weakS_mk [some 0, some 1, some 2] rfl ?_ (by simp -dsimp -implicitDefEqProofs (disch := omega) [go_sem, -List.getD_eq_getElem?_getD, ite_yes, ht]))
                  simp -dsimp -implicitDefEqProofs (disch := omega) [go_sem, -List.getD_eq_getElem?_getD, ite_yes]
                  exact ⟨.inl ⟨rfl, nmE_flat _⟩, .inl ⟨by rw [e], nmE_flat _⟩, .inl ⟨by rw [e], nmE_flat _⟩⟩
              · simp -dsimp -implicitDefEqProofs (disch := omega) [go_sem, -List.getD_eq_getElem?_getD, ite_yes, ht, hyi, hyl, hac, hacn, hacc, hfs, hfu, hfo, hjn, c1, c2, c3, s2]
                first | refine AAt.of (by first | exact SubH.refl | exact SubH.app | exact SubH.both (by simp [subL])) ?_ | (refine ⟨?_, AAt.of (by first | exact SubH.refl | exact SubH.app | exact SubH.both (by simp [subL])) ?_⟩; · omega)
                refine AAny.one 4 4 (by kernel_rfl) (by kernel_rfl) (by kernel_rfl) ?_
                simp -dsimp -implicitDefEqProofs (disch := omega) [go_sem, -List.getD_eq_getElem?_getD, ite_yes, ht, hyi, hyl, hac, hacn, hacc, hfs, hfu, hfo, hjn, c1, c2, c3, s2]
                first | refine AAt.of (by first | exact SubH.refl | exact SubH.app | exact SubH.both (by simp [subL])) ?_ | (refine ⟨?_, AAt.of (by first | exact SubH.refl | exact SubH.app | exact SubH.both (by simp [subL])) ?_⟩; · omega)
                refine AAny.one 3 5 (by kernel_rfl) (by kernel_rfl) (by kernel_rfl) ?_
                simp -dsimp -implicitDefEqProofs (disch := omega) [go_sem, -List.getD_eq_getElem?_getD, ite_yes, ht, hyi, hyl, hac, hacn, hacc, hfs, hfu, hfo, hjn, c1, c2, c3, s2]
                first | refine AAt.of (by first | exact SubH.refl | exact SubH.app | exact SubH.both (by simp [subL])) ?_ | (refine ⟨?_, AAt.of (by first | exact SubH.refl | exact SubH.app | exact SubH.both (by simp [subL])) ?_⟩; · omega)
                refine AAny.takes (fuel := 2) (by kernel_rfl) (by kernel_rfl) [14] (by kernel_rfl) (by kernel_rfl) ?_
                simp -dsimp -implicitDefEqProofs (disch := omega) [go_sem, -List.getD_eq_getElem?_getD, ite_yes, ht, hyi, hyl, hac, hacn, hacc, hfs, hfu, hfo, hjn, c1, c2, c3, s2]
                refine AAny.one 1 15 (by kernel_rfl) (by kernel_rfl) (by kernel_rfl) ?_
                simp -dsimp -implicitDefEqProofs (disch := omega) [go_sem, -List.getD_eq_getElem?_getD, ite_yes, ht, hyi, hyl, hac, hacn, hacc, hfs, hfu, hfo, hjn, c1, c2, c3, s2]
                first | refine AAt.of (by first | exact SubH.refl | exact SubH.app | exact SubH.both (by simp [subL])) ?_ | (refine ⟨?_, AAt.of (by first | exact SubH.refl | exact SubH.app | exact SubH.both (by simp [subL])) ?_⟩; · omega)
                refine AAny.one 0 16 (by kernel_rfl) (by kernel_rfl) (by kernel_rfl) ?_
                simp -dsimp -implicitDefEqProofs (disch := omega) [go_sem, -List.getD_eq_getElem?_getD, ite_yes, ht, hyi, hyl, hac, hacn, hacc, hfs, hfu, hfo, hjn, c1, c2, c3, s2]
                first | refine AAt.of (by first | exact SubH.refl | exact SubH.app | exact SubH.both (by simp [subL])) ?_ | (refine ⟨?_, AAt.of (by first | exact SubH.refl | exact SubH.app | exact SubH.both (by simp [subL])) ?_⟩; · omega)
                refine AAny.done (by kernel_rfl) ?_
                simp -dsimp -implicitDefEqProofs (disch := omega) [go_sem, -List.getD_eq_getElem?_getD, ite_yes, ht, hyi, hyl, hac, hacn, hacc, hfs, hfu, hfo, hjn, c1, c2, c3, s2]
                refine LoopEnd.of (j + 1) (by omega) (by omega) (weakS_mk [some 0, some 1, some 2] rfl ?_ (by simp -dsimp -implicitDefEqProofs (disch := omega) [go_sem, -List.getD_eq_getElem?_getD, ite_yes, ht]))
                simp -dsimp -implicitDefEqProofs (disch := omega) [go_sem, -List.getD_eq_getElem?_getD, ite_yes]
                exact ⟨.inl ⟨rfl, nmE_flat _⟩, .inl ⟨by rw [e], nmE_flat _⟩, .inl ⟨by rw [e], nmE_flat _⟩⟩
theorem grTo_small (l : List Tk) (crews : Int) (h : l.length ≤ 1048577) : (grTo l crews l.length).1.length ≤ 1048577 := by rw [(grTo_length l crews l.length).1]; exact h
end Go.Proofs.Ythajahknincjjaa
