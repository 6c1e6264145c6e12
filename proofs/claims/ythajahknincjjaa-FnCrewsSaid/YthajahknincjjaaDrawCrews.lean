/- What the crews' laws draw. -/
import Derived.Test.YthajahknincjjaaDrawTks
import Derived.Test.YthajahknincjjaaDrawBy
namespace Go.Proofs.Ythajahknincjjaa
open Go.Am
set_option linter.unusedVariables false
set_option linter.unusedSimpArgs false
set_option maxRecDepth 100000
set_option maxHeartbeats 1000000

/-- tasks, crews, and an assignment that may begin within its block -/
def PAsg (H : Heap) (v : Value) (H' : Heap) : Prop := ∃ (l : List Tk) (crews : Int) (xs a : List Int) (off k : Nat), v = .tuple #[.slice (some ⟨H.length, 0, none⟩) l.length l.length, .int .i64 crews, .slice (some ⟨H.length + 1, off, none⟩) a.length k] ∧ l.length ≤ 20 ∧ a.length ≤ 30 ∧ List.drop off (xs.flatMap nmE) = a.flatMap nmE ∧
  H' = H ++ [some ⟨l.flatMap tkE, true, 56, 3⟩, some ⟨xs.flatMap nmE, true, 3, 1⟩]
structure AsgI where
  k : Nat
  a : List Int
  p : Int
  s : Int
theorem asg_end {H L : Heap} {l : List Tk} {crews : Int} {ys : List Value} (xs a : List Int) {off k n : Nat} (j : Nat) (hb1 : Heap.get L 1 = some ⟨l.flatMap tkE, true, 56, 3⟩) (hb : Heap.get L j = some ⟨ys, true, 3, 1⟩) (hj : j ≠ 1) (hy : ys = xs.flatMap nmE) (l1 : l.length ≤ 20)
    (hn : n = a.length) (an : a.length ≤ 30) (hd : List.drop off (xs.flatMap nmE) = a.flatMap nmE) :
    EndR H (PAsg H) (.tuple #[.slice (some ⟨H.length + 1, 0, none⟩) l.length l.length, .int .i64 crews, .slice (some ⟨H.length + j, off, none⟩) n k]) (H ++ L) := by
  subst hn; subst hy
  refine EndR.of (.tuple #[.slice (some ⟨H.length, 0, none⟩) l.length l.length, .int .i64 crews, .slice (some ⟨H.length + 1, off, none⟩) a.length k]) _ ⟨l, crews, xs, a, off, k, rfl, l1, an, hd, rfl⟩ (fin_list [some 1, some j] (by simp [jsOk]; omega) ?_ ?_)
  · simp only [wkL, hb1, hb]
    exact ⟨⟨trivial, trivial, id, .inl ⟨rfl, tkE_flat _⟩⟩, ⟨trivial, trivial, id, .inl ⟨rfl, nmE_flat _⟩⟩, trivial⟩
  · simp -dsimp -implicitDefEqProofs (disch := omega) [go_sem, -List.getD_eq_getElem?_getD, ite_yes, sg]
    omega
theorem drawLoadsOf_R {H : Heap} {tc n : Nat} (h : Bytes H tc n) (cc : Nat) : AFunR Try.prog 5 [.slice (some ⟨tc, 0, none⟩) n cc] H (PAsg H) := by
  refine AFunR.of_body Try.func5 (by kernel_rfl) rfl (by kernel_rfl) (by simp [Try.ntmps5]) ?_
  have ht := h.lt
  simp -dsimp -implicitDefEqProofs (disch := omega) [go_sem, -List.getD_eq_getElem?_getD, ite_yes]
  refine ACall.via (tasks_R (h.cur cc) (by omega) 8 (by omega)) ?_
  rintro _ _ ⟨l, a, s, rfl, l1, q1, q1', rfl⟩
  have lf := tkE_length l
  simp -dsimp -implicitDefEqProofs (disch := omega) [go_sem, -List.getD_eq_getElem?_getD, ite_yes]
  refine ACall.via (crews_R (h.curAt cc (by omega) _) (by omega)) ?_
  rintro _ _ ⟨crews, a2, s2, rfl, c0, c4, q2, q2', rfl⟩
  simp -dsimp -implicitDefEqProofs (disch := omega) [go_sem, -List.getD_eq_getElem?_getD, ite_yes]
  refine ALoop.intro (ι := AsgI) (fun i => i.k ≤ l.length ∧ i.a.length = i.k ∧ 0 ≤ i.p ∧ i.p ≤ 1000 + 2 * i.k) (fun i => [(5, .pointer (some ⟨H.length, 0, none⟩)), (6, .slice (some ⟨H.length + 1, 0, none⟩) l.length l.length), (7, .int .i64 crews), (8, .slice (some ⟨H.length + 2, 0, none⟩) i.a.length i.a.length), (9, .int .i64 i.k)])
    (fun i => H ++ [curB tc n cc i.p i.s, some ⟨l.flatMap tkE, true, 56, 3⟩, some ⟨i.a.flatMap nmE, true, 3, 1⟩]) (fun i => l.length - i.k) ⟨0, [], a2, s2⟩ ⟨by simp only; omega, rfl, by simp only; omega, by simp only; omega⟩ ?_ ?_
  · refine weakS_mk [some 0, some 1, some 2] rfl ?_ (by simp -dsimp -implicitDefEqProofs (disch := omega) [go_sem, -List.getD_eq_getElem?_getD, ite_yes, ht])
    simp -dsimp -implicitDefEqProofs (disch := omega) [go_sem, -List.getD_eq_getElem?_getD, ite_yes]
    exact ⟨.inr (h.wms _ _ _ _ _), .inl ⟨rfl, tkE_flat _⟩, .inl ⟨rfl, rfl⟩⟩
  · rintro ⟨k, x, p, s3⟩ ⟨i1, i2, i3, i4⟩
    simp only at i1 i2 i3 i4
    subst i2
    have xf := nmE_length x
    by_cases hlt : x.length < l.length
    · simp -dsimp -implicitDefEqProofs (disch := omega) [go_sem, -List.getD_eq_getElem?_getD, ite_yes, hlt]
      refine ACall.of (l1Most_A _ _ _) ?_
      simp -dsimp -implicitDefEqProofs (disch := omega) [go_sem, -List.getD_eq_getElem?_getD, ite_yes]
      refine ACall.via (pick_R (h.curAt cc (by omega) _) (by omega) (max crews 1) (by omega)) ?_
      rintro _ _ ⟨r, rfl, r0, r1, a3, s4, q3, q3', rfl⟩
      simp -dsimp -implicitDefEqProofs (disch := omega) [go_sem, -List.getD_eq_getElem?_getD, ite_yes, hlt, xf]
      refine ⟨by omega, LoopEnd.of ⟨x.length + 1, x ++ [r], a3, s4⟩ ⟨by simp only; omega, by simp, by simp only; omega, by simp only; omega⟩ (by simp only; omega) (weakS_mk [some 0, some 1, some 4] rfl ?_ (by simp -dsimp -implicitDefEqProofs (disch := omega) [go_sem, -List.getD_eq_getElem?_getD, ite_yes, ht]))⟩
      simp -dsimp -implicitDefEqProofs (disch := omega) [go_sem, -List.getD_eq_getElem?_getD, ite_yes]
      exact ⟨.inr (h.wms _ _ _ _ _), .inl ⟨rfl, tkE_flat _⟩, .inl ⟨by simp [nmE], by simp [nmE, flat]⟩⟩
    · simp -dsimp -implicitDefEqProofs (disch := omega) [go_sem, -List.getD_eq_getElem?_getD, ite_yes, hlt]
      refine ACall.via (pick_R (h.curAt cc (by omega) _) (by omega) 24 (by omega)) ?_
      rintro _ _ ⟨r, rfl, r0, r1, a3, s4, q3, q3', rfl⟩
      simp -dsimp -implicitDefEqProofs (disch := omega) [go_sem, -List.getD_eq_getElem?_getD, ite_yes]
      refine AIf.of (fun w0 => ?_) (fun w0 => ?_)
      · simp -dsimp -implicitDefEqProofs (disch := omega) [go_sem, -List.getD_eq_getElem?_getD, ite_yes, xf]
        exact ⟨by omega, asg_end (x ++ [0]) (x ++ [0]) 4 rfl rfl (by omega) (by simp [nmE]) l1 (by simp) (by simp; omega) rfl⟩
      simp -dsimp -implicitDefEqProofs (disch := omega) [go_sem, -List.getD_eq_getElem?_getD, ite_yes]
      refine AIf.of (fun w1 => ?_) (fun w1 => ?_)
      · simp -dsimp -implicitDefEqProofs (disch := omega) [go_sem, -List.getD_eq_getElem?_getD, ite_yes, xf]
        by_cases hx : 0 < x.length
        · simp -dsimp -implicitDefEqProofs (disch := omega) [go_sem, -List.getD_eq_getElem?_getD, ite_yes, hx]
          refine ACall.via (among_R (h.curAt cc (by omega) _) (by omega) [-1, crews] (by simp) (by simp) _ _ (by omega) (Sl.nth 3 rfl rfl)) ?_
          rintro _ _ ⟨y, rfl, ym, a6, s6, q6, q6', rfl⟩
          simp -dsimp -implicitDefEqProofs (disch := omega) [go_sem, -List.getD_eq_getElem?_getD, ite_yes, hx, xf]
          exact asg_end (x.set 0 y) (x.set 0 y) 2 rfl rfl (by omega) (nm_set x y hx) l1 (by simp) (by simp; omega) rfl
        · simp -dsimp -implicitDefEqProofs (disch := omega) [go_sem, -List.getD_eq_getElem?_getD, ite_yes, hx]
          exact asg_end x x 2 rfl rfl (by omega) rfl l1 rfl (by omega) rfl
      simp -dsimp -implicitDefEqProofs (disch := omega) [go_sem, -List.getD_eq_getElem?_getD, ite_yes]
      refine AIf.of (fun w2 => ?_) (fun w2 => ?_)
      · simp -dsimp -implicitDefEqProofs (disch := omega) [go_sem, -List.getD_eq_getElem?_getD, ite_yes, xf]
        by_cases hx : 0 < x.length
        · simp -dsimp -implicitDefEqProofs (disch := omega) [go_sem, -List.getD_eq_getElem?_getD, ite_yes, hx, xf]
          exact asg_end x x.tail 2 rfl rfl (by omega) rfl l1 (by simp) (by simp; omega) (by cases x <;> rfl)
        · simp -dsimp -implicitDefEqProofs (disch := omega) [go_sem, -List.getD_eq_getElem?_getD, ite_yes, hx]
          exact asg_end x x 2 rfl rfl (by omega) rfl l1 rfl (by omega) rfl
      simp -dsimp -implicitDefEqProofs (disch := omega) [go_sem, -List.getD_eq_getElem?_getD, ite_yes]
      exact asg_end x x 2 rfl rfl (by omega) rfl l1 rfl (by omega) rfl
end Go.Proofs.Ythajahknincjjaa
