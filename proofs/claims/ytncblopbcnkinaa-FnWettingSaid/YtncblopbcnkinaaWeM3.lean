/- Sort, Sort2, MoveCopy, Order, Gentle, NwP, RecNet, StillDryLaw, Useful, WetMono, Gentle2, in one text. -/
import Derived.Test.YtncblopbcnkinaaWeM1
import Derived.Test.YtncblopbcnkinaaNet
import Derived.Test.YtncblopbcnkinaaAm15
/- slices.Sort on at most twelve numbers. -/
namespace Go.Proofs.Ytncblopbcnkinaa
open Go.Am
set_option linter.unusedVariables false
set_option linter.unusedSimpArgs false
set_option maxRecDepth 100000
set_option maxHeartbeats 4000000

abbrev Srt (l : List Int) : Prop := l.Pairwise (· ≤ ·)
theorem srt_perm_eq : ∀ {a b : List Int}, a.Perm b → Srt a → Srt b → a = b
  | [], b, h, _, _ => (List.nil_perm.1 h).symm ▸ rfl
  | x :: a, [], h, _, _ => absurd (List.perm_nil.1 h) (by simp)
  | x :: a, y :: b, h, ha, hb => by
    have ha' := List.pairwise_cons.1 ha
    have hb' := List.pairwise_cons.1 hb
    have hxy : x = y := by
      have hx : x ∈ y :: b := h.mem_iff.1 (by simp)
      have hy : y ∈ x :: a := h.mem_iff.2 (by simp)
      rcases List.mem_cons.1 hx with e | hx
      · exact e
      · rcases List.mem_cons.1 hy with e | hy
        · exact e.symm
        · have := hb'.1 x hx
          have := ha'.1 y hy
          omega
    subst hxy
    rw [srt_perm_eq (List.Perm.cons_inv h) ha'.2 hb'.2]
/-- within the insertion: x stands behind A and before B -/
structure InS (l : List Int) (i : Nat) (A : List Int) (x : Int) (B R : List Int) : Prop where
  perm : (A ++ x :: (B ++ R)).Perm l
  srt : Srt (A ++ B)
  lt : ∀ b ∈ B, x < b
  len : A.length + B.length = i
theorem InS.swap {l : List Int} {i : Nat} {A : List Int} {y x : Int} {B R : List Int} (h : InS l i (A ++ [y]) x B R) (hxy : x < y) : InS l i A x (y :: B) R where
  perm := by
    refine List.Perm.trans ?_ h.perm
    rw [List.append_assoc]
    exact List.Perm.append_left A (List.Perm.swap y x (B ++ R))
  srt := by have := h.srt; rwa [List.append_assoc] at this
  lt := fun b hb => by
    rcases List.mem_cons.1 hb with rfl | hb
    · exact hxy
    · exact h.lt b hb
  len := by have := h.len; simp at this ⊢; omega
theorem InS.done {l : List Int} {i : Nat} {A : List Int} {x : Int} {B R : List Int} (h : InS l i A x B R) (hx : ∀ a ∈ A, a ≤ x) : Srt (A ++ x :: B) := by
  have h1 := List.pairwise_append.1 h.srt
  refine List.pairwise_append.2 ⟨h1.1, List.pairwise_cons.2 ⟨fun b hb => by have := h.lt b hb; omega, h1.2.1⟩, fun a ha b hb => ?_⟩
  rcases List.mem_cons.1 hb with rfl | hb
  · exact hx a ha
  · exact h1.2.2 a ha b hb
theorem nm_at (A T : List Int) (y : Int) : List.take 1 (List.drop A.length ((A ++ y :: T).flatMap nmE)) = [.int .i64 y] := by
  have := nm_cell1 (A ++ y :: T) (q := A.length) (by simp)
  simpa using this
theorem nm_put (A T : List Int) (y z : Int) : ((A ++ y :: T).flatMap nmE).set A.length (.int .i64 z) = (A ++ z :: T).flatMap nmE := by
  have := set_cell (f := nmE) (s := 1) (l := A ++ y :: T) (i := A.length) (fun _ => rfl) z 0 (by simp) (j := 0) (by omega) (v := .int .i64 z) rfl
  rw [Nat.mul_one, Nat.add_zero] at this
  rw [this]; simp
theorem isNaN_A (x : Int) (H : Heap) : AFunC Try.prog 86 [.int .i64 x] H (.bool false) H := by
  refine AFunC.of_body Try.func86 (by kernel_rfl) rfl (by kernel_rfl) (by simp [Try.ntmps86]) ?_
  simp -dsimp -implicitDefEqProofs (disch := omega) [go_sem, -List.getD_eq_getElem?_getD, ite_yes]
  exact fin_flat0 rfl rfl
theorem less_A (x y : Int) (H : Heap) : AFunC Try.prog 135 [.int .i64 x, .int .i64 y] H (.bool (decide (x < y))) H := by
  refine AFunC.of_body Try.func135 (by kernel_rfl) rfl (by kernel_rfl) (by simp [Try.ntmps135]) ?_
  simp -dsimp -implicitDefEqProofs (disch := omega) [go_sem, -List.getD_eq_getElem?_getD, ite_yes]
  refine ACall.of (isNaN_A _ _) ?_
  simp -dsimp -implicitDefEqProofs (disch := omega) [go_sem, -List.getD_eq_getElem?_getD, ite_yes]
  exact fin_flat0 rfl rfl
/-- what sorting hands out -/
def SortOut (H : Heap) (t e : Nat) (l : List Int) (v : Value) (G : Heap) : Prop :=
  ∃ m : List Int, v = .tuple #[] ∧ m.Perm l ∧ Srt m ∧ G = H.set t (some ⟨m.flatMap nmE, true, e, 1⟩)
theorem insertionSort_R (l : List Int) (hl : l.length ≤ 1048577) (c e : Nat) (H : Heap) (t : Nat) (hb : H.get t = some ⟨l.flatMap nmE, true, e, 1⟩) :
    AFunR Try.prog 129 [.slice (some ⟨t, 0, none⟩) l.length c, .int .i64 0, .int .i64 l.length] H (SortOut H t e l) := by
  refine AFunR.of_body Try.func129 (by kernel_rfl) rfl (by kernel_rfl) (by simp [Try.ntmps129]) ?_
  have ht := Heap.get_lt hb
  simp -dsimp -implicitDefEqProofs (disch := omega) [go_sem, -List.getD_eq_getElem?_getD, ite_yes, ht]
  refine ALoop.intro (ι := List Int × Nat) (fun q => q.1.Perm l ∧ Srt (q.1.take q.2) ∧ 1 ≤ q.2 ∧ q.2 ≤ l.length + 1) (fun q => [(0, .slice (some ⟨t, 0, none⟩) l.length c), (1, .int .i64 0), (2, .int .i64 l.length), (6, .int .i64 q.2)])
    (fun q => H.set t (some ⟨q.1.flatMap nmE, true, e, 1⟩)) (fun q => l.length + 1 - q.2) (l, 1) ⟨List.Perm.refl _, ?_, by omega, by omega⟩ ?_ ?_
  · cases l with
    | nil => exact List.Pairwise.nil
    | cons a l => simp
  · exact weakS_set ht (nmE_flat _) rfl (Heap.set_self hb).symm (by simp -dsimp -implicitDefEqProofs (disch := omega) [go_sem, -List.getD_eq_getElem?_getD, ite_yes, ht])
  rintro ⟨m, i⟩ ⟨hm, hs, hi1, hi2⟩
  simp only at hm hs hi1 hi2 ⊢
  have gs := fun x => Heap.get_set_self (H := H) ht (x := x)
  have hml : m.length = l.length := hm.length_eq
  by_cases hlt : i < l.length
  rotate_left
  · have hlt' : ¬ (i : Int) < (l.length : Int) := by omega
    rw [List.take_of_length_le (by omega)] at hs
    simp -dsimp -implicitDefEqProofs (disch := omega) [go_sem, -List.getD_eq_getElem?_getD, ite_yes, hlt', hlt]
    exact EndR.of (.tuple #[]) (H.set t (some ⟨m.flatMap nmE, true, e, 1⟩)) ⟨m, rfl, hm, hs, rfl⟩ (fin_set ht (nmE_flat m) rfl rfl rfl rfl)
  have hlt' : (i : Int) < (l.length : Int) := by omega
  simp -dsimp -implicitDefEqProofs (disch := omega) [go_sem, -List.getD_eq_getElem?_getD, ite_yes, hlt', hlt, ht]
  have hsplit : m = m.take i ++ m.getD i 0 :: ([] ++ m.drop (i + 1)) := by
    rw [List.nil_append]
    have : m.getD i 0 = m[i]'(by omega) := by rw [List.getD_eq_getElem?_getD, List.getElem?_eq_getElem (by omega)]; rfl
    rw [this, ← List.drop_eq_getElem_cons, List.take_append_drop]
  refine ALoop.intro (ι := List Int × Int × List Int × List Int) (fun q => InS l i q.1 q.2.1 q.2.2.1 q.2.2.2) (fun q => [(0, .slice (some ⟨t, 0, none⟩) l.length c), (1, .int .i64 0), (2, .int .i64 l.length), (6, .int .i64 i), (7, .int .i64 q.1.length)])
    (fun q => H.set t (some ⟨(q.1 ++ q.2.1 :: (q.2.2.1 ++ q.2.2.2)).flatMap nmE, true, e, 1⟩)) (fun q => q.1.length) (m.take i, m.getD i 0, [], m.drop (i + 1)) ?_ ?_ ?_
  · exact ⟨by rw [← hsplit]; exact hm, by simpa using hs, fun b hb => absurd hb (by simp), by simp; omega⟩
  · exact weakS_set ht (nmE_flat _) rfl (by rw [← hsplit]) (by simp -dsimp -implicitDefEqProofs (disch := omega) [go_sem, -List.getD_eq_getElem?_getD, ite_yes, ht])
  rintro ⟨A, x, B, R⟩ hI
  simp only at hI ⊢
  have hbl := hI.len
  have hpl := hI.perm.length_eq
  simp only [List.length_append, List.length_cons] at hpl
  have hend : (∀ a ∈ A, a ≤ x) → (A ++ x :: (B ++ R)).Perm l ∧ Srt ((A ++ x :: (B ++ R)).take (i + 1)) ∧ 1 ≤ i + 1 ∧ i + 1 ≤ l.length + 1 := fun hx => by
    refine ⟨hI.perm, ?_, by omega, by omega⟩
    have e9 : A ++ x :: (B ++ R) = (A ++ x :: B) ++ R := by simp
    rw [e9, List.take_left' (by simp; omega)]
    exact hI.done hx
  rcases List.eq_nil_or_concat A with rfl | ⟨A', y, rfl⟩
  · obtain ⟨M, hM⟩ : ∃ M, [] ++ x :: (B ++ R) = M := ⟨_, rfl⟩
    rw [hM] at hend ⊢
    simp -dsimp -implicitDefEqProofs (disch := omega) [go_sem, -List.getD_eq_getElem?_getD, ite_yes, ht]
    refine ADraw.quiet (by kernel_rfl) (by kernel_rfl) (by kernel_rfl) ?_
    simp -dsimp -implicitDefEqProofs (disch := omega) [go_sem, -List.getD_eq_getElem?_getD, ite_yes, ht]
    exact LoopEnd.of (M, i + 1) (hend fun a ha => absurd ha (by simp)) (by omega) (weakS_set ht (nmE_flat _) rfl rfl (by simp -dsimp -implicitDefEqProofs (disch := omega) [go_sem, -List.getD_eq_getElem?_getD, ite_yes, ht]))
  rw [List.concat_eq_append] at *
  have hl1 : (A' ++ [y]).length = A'.length + 1 := by simp
  have e1 : (A' ++ [y]) ++ x :: (B ++ R) = A' ++ y :: x :: (B ++ R) := by simp
  have hfl : ((A' ++ y :: x :: (B ++ R)).flatMap nmE).length = l.length := by rw [nmE_length, ← hpl]; simp; omega
  have hjl : A'.length + 1 < l.length := by rw [hl1] at hbl hpl; omega
  have hj0 : A'.length < l.length := by omega
  have ca : aCells (H.set t (some ⟨(A' ++ y :: x :: (B ++ R)).flatMap nmE, true, e, 1⟩)) ⟨t, A'.length + 1, none⟩ 1 = some [.int .i64 x] := by
    have := nm_at (A' ++ [y]) (B ++ R) x
    rw [e1, hl1] at this
    rw [aCells_eq, gs, aC1]
    simp only [hfl]
    rw [if_pos (by omega), this]
  have cb : aCells (H.set t (some ⟨(A' ++ y :: x :: (B ++ R)).flatMap nmE, true, e, 1⟩)) ⟨t, A'.length, none⟩ 1 = some [.int .i64 y] := by
    have := nm_at A' (x :: (B ++ R)) y
    rw [aCells_eq, gs, aC1]
    simp only [hfl]
    rw [if_pos (by omega), this]
  have s1 : ((A' ++ y :: x :: (B ++ R)).flatMap nmE).set (A'.length + 1) (.int .i64 y) = (A' ++ y :: y :: (B ++ R)).flatMap nmE := by
    have := nm_put (A' ++ [y]) (B ++ R) x y
    rw [hl1] at this
    simpa using this
  have s2 : ((A' ++ y :: y :: (B ++ R)).flatMap nmE).set A'.length (.int .i64 x) = (A' ++ x :: y :: (B ++ R)).flatMap nmE := nm_put A' (y :: (B ++ R)) y x
  have hfl2 : ((A' ++ y :: y :: (B ++ R)).flatMap nmE).length = l.length := by rw [nmE_length, ← hpl]; simp; omega
  rw [e1, hl1]
  rw [e1] at hend
  have hM2 := (hI.swap (A := A') (y := y))
  obtain ⟨M, hM⟩ : ∃ M, A' ++ y :: x :: (B ++ R) = M := ⟨_, rfl⟩
  obtain ⟨M1, hM1⟩ : ∃ M, A' ++ y :: y :: (B ++ R) = M := ⟨_, rfl⟩
  obtain ⟨M2, hM3⟩ : ∃ M, A' ++ x :: y :: (B ++ R) = M := ⟨_, rfl⟩
  rw [hM] at hend hfl ca cb s1 ⊢
  rw [hM1] at s1 s2 hfl2
  rw [hM3] at s2
  have hj1 : (((A'.length + 1 : Nat) : Int) - 1).toNat = A'.length := by omega
  simp -dsimp -implicitDefEqProofs (disch := omega) [go_sem, -List.getD_eq_getElem?_getD, ite_yes, ht, hjl, hj0]
  refine ADraw.quiet (by kernel_rfl) (by kernel_rfl) (by kernel_rfl) ?_
  simp -dsimp -implicitDefEqProofs (disch := omega) [go_sem, -List.getD_eq_getElem?_getD, ite_yes, ht, hjl, hj0, ca, cb]
  refine ACallQ.of (less_A x y _) rfl ?_
  by_cases hxy : x < y
  · simp -dsimp -implicitDefEqProofs (disch := omega) [go_sem, -List.getD_eq_getElem?_getD, ite_yes, hxy, ht]
    refine ADraw.any [] (by kernel_rfl) (SubH.nil) ?_
    refine AAny.takes (fuel := 6) (by kernel_rfl) (by kernel_rfl) [0, 1, 2, 3, 4, 5, 6, 7, 8, 10, 11, 12] (by kernel_rfl) (by kernel_rfl) ?_
    simp -dsimp -implicitDefEqProofs (disch := omega) [go_sem, -List.getD_eq_getElem?_getD, ite_yes, ht, hjl, hj0, ca, cb, gs, hfl, hfl2, s1, s2, List.set_set]
    refine AAny.two 5 9 13 (by kernel_rfl) (by kernel_rfl) (by kernel_rfl) ?_ ?_
    · simp -dsimp -implicitDefEqProofs (disch := omega) [go_sem, -List.getD_eq_getElem?_getD, ite_yes, ht, hjl, hj0, ca, cb, gs, hfl, hfl2, s1, s2, List.set_set]
      first | refine AAt.of (SubH.nil) ?_ | (refine ⟨?_, AAt.of (SubH.nil) ?_⟩; · omega)
      refine AAny.one 4 13 (by kernel_rfl) (by kernel_rfl) (by kernel_rfl) ?_
      simp -dsimp -implicitDefEqProofs (disch := omega) [go_sem, -List.getD_eq_getElem?_getD, ite_yes, ht, hjl, hj0, ca, cb, gs, hfl, hfl2, s1, s2, List.set_set]
      first | refine AAt.of (SubH.nil) ?_ | (refine ⟨?_, AAt.of (SubH.nil) ?_⟩; · omega)
      refine AAny.takes (fuel := 3) (by kernel_rfl) (by kernel_rfl) [14] (by kernel_rfl) (by kernel_rfl) ?_
      simp -dsimp -implicitDefEqProofs (disch := omega) [go_sem, -List.getD_eq_getElem?_getD, ite_yes, ht, hjl, hj0, ca, cb, gs, hfl, hfl2, s1, s2, List.set_set]
      refine AAny.one 2 15 (by kernel_rfl) (by kernel_rfl) (by kernel_rfl) ?_
      simp -dsimp -implicitDefEqProofs (disch := omega) [go_sem, -List.getD_eq_getElem?_getD, ite_yes, ht, hjl, hj0, ca, cb, gs, hfl, hfl2, s1, s2, List.set_set]
      first | refine AAt.of (SubH.nil) ?_ | (refine ⟨?_, AAt.of (SubH.nil) ?_⟩; · omega)
      refine AAny.takes (fuel := 1) (by kernel_rfl) (by kernel_rfl) [16] (by kernel_rfl) (by kernel_rfl) ?_
      simp -dsimp -implicitDefEqProofs (disch := omega) [go_sem, -List.getD_eq_getElem?_getD, ite_yes, ht, hjl, hj0, ca, cb, gs, hfl, hfl2, s1, s2, List.set_set]
      refine AAny.one 0 17 (by kernel_rfl) (by kernel_rfl) (by kernel_rfl) ?_
      simp -dsimp -implicitDefEqProofs (disch := omega) [go_sem, -List.getD_eq_getElem?_getD, ite_yes, ht, hjl, hj0, ca, cb, gs, hfl, hfl2, s1, s2, List.set_set]
      first | refine AAt.of (SubH.nil) ?_ | (refine ⟨?_, AAt.of (SubH.nil) ?_⟩; · omega)
      refine AAny.done (by kernel_rfl) ?_
      simp -dsimp -implicitDefEqProofs (disch := omega) [go_sem, -List.getD_eq_getElem?_getD, ite_yes, ht, hjl, hj0, ca, cb, gs, hfl, hfl2, s1, s2, List.set_set]
      exact LoopEnd.of (A', x, y :: B, R) (hM2 hxy) (by simp) (weakS_set (b := ⟨M2.flatMap nmE, true, e, 1⟩) ht (nmE_flat _) (by rw [← hM3]; simp) (by simp [s1, s2]) (by simp -dsimp -implicitDefEqProofs (disch := omega) [go_sem, -List.getD_eq_getElem?_getD, ite_yes, ht]))
    · simp -dsimp -implicitDefEqProofs (disch := omega) [go_sem, -List.getD_eq_getElem?_getD, ite_yes, ht, hjl, hj0, ca, cb, gs, hfl, hfl2, s1, s2, List.set_set]
      first | refine AAt.of (SubH.nil) ?_ | (refine ⟨?_, AAt.of (SubH.nil) ?_⟩; · omega)
      refine AAny.one 4 9 (by kernel_rfl) (by kernel_rfl) (by kernel_rfl) ?_
      simp -dsimp -implicitDefEqProofs (disch := omega) [go_sem, -List.getD_eq_getElem?_getD, ite_yes, ht, hjl, hj0, ca, cb, gs, hfl, hfl2, s1, s2, List.set_set]
      first | refine AAt.of (SubH.nil) ?_ | (refine ⟨?_, AAt.of (SubH.nil) ?_⟩; · omega)
      refine AAny.takes (fuel := 3) (by kernel_rfl) (by kernel_rfl) [14] (by kernel_rfl) (by kernel_rfl) ?_
      simp -dsimp -implicitDefEqProofs (disch := omega) [go_sem, -List.getD_eq_getElem?_getD, ite_yes, ht, hjl, hj0, ca, cb, gs, hfl, hfl2, s1, s2, List.set_set]
      refine AAny.one 2 15 (by kernel_rfl) (by kernel_rfl) (by kernel_rfl) ?_
      simp -dsimp -implicitDefEqProofs (disch := omega) [go_sem, -List.getD_eq_getElem?_getD, ite_yes, ht, hjl, hj0, ca, cb, gs, hfl, hfl2, s1, s2, List.set_set]
      first | refine AAt.of (SubH.nil) ?_ | (refine ⟨?_, AAt.of (SubH.nil) ?_⟩; · omega)
      refine AAny.takes (fuel := 1) (by kernel_rfl) (by kernel_rfl) [16] (by kernel_rfl) (by kernel_rfl) ?_
      simp -dsimp -implicitDefEqProofs (disch := omega) [go_sem, -List.getD_eq_getElem?_getD, ite_yes, ht, hjl, hj0, ca, cb, gs, hfl, hfl2, s1, s2, List.set_set]
      refine AAny.one 0 17 (by kernel_rfl) (by kernel_rfl) (by kernel_rfl) ?_
      simp -dsimp -implicitDefEqProofs (disch := omega) [go_sem, -List.getD_eq_getElem?_getD, ite_yes, ht, hjl, hj0, ca, cb, gs, hfl, hfl2, s1, s2, List.set_set]
      first | refine AAt.of (SubH.nil) ?_ | (refine ⟨?_, AAt.of (SubH.nil) ?_⟩; · omega)
      refine AAny.done (by kernel_rfl) ?_
      simp -dsimp -implicitDefEqProofs (disch := omega) [go_sem, -List.getD_eq_getElem?_getD, ite_yes, ht, hjl, hj0, ca, cb, gs, hfl, hfl2, s1, s2, List.set_set]
      exact LoopEnd.of (A', x, y :: B, R) (hM2 hxy) (by simp) (weakS_set (b := ⟨M2.flatMap nmE, true, e, 1⟩) ht (nmE_flat _) (by rw [← hM3]; simp) (by simp [s1, s2]) (by simp -dsimp -implicitDefEqProofs (disch := omega) [go_sem, -List.getD_eq_getElem?_getD, ite_yes, ht]))
  · simp -dsimp -implicitDefEqProofs (disch := omega) [go_sem, -List.getD_eq_getElem?_getD, ite_yes, hxy, ht]
    have hx : ∀ a ∈ A' ++ [y], a ≤ x := by
      have h1 := (List.pairwise_append.1 hI.srt).1
      have h2 := List.pairwise_append.1 h1
      intro a ha
      rcases List.mem_append.1 ha with ha | ha
      · have := h2.2.2 a ha y (by simp); omega
      · have : a = y := by simpa using ha
        omega
    exact LoopEnd.of (M, i + 1) (hend hx) (by omega) (weakS_set ht (nmE_flat _) rfl rfl (by simp -dsimp -implicitDefEqProofs (disch := omega) [go_sem, -List.getD_eq_getElem?_getD, ite_yes, ht]))
end Go.Proofs.Ytncblopbcnkinaa
/- slices.Sort and slices.Equal on at most ten numbers. -/
namespace Go.Proofs.Ytncblopbcnkinaa
open Go.Am
set_option linter.unusedVariables false
set_option linter.unusedSimpArgs false
set_option maxRecDepth 100000
set_option maxHeartbeats 4000000

theorem wrap_u64 {x : Int} (h1 : 0 ≤ x) (h2 : x ≤ 1000) : IntKind.u64.wrap x = x := by
  simp [IntKind.wrap, IntKind.signed, IntKind.bits]; omega
theorem len64_A (k : Nat) (hk : k ≤ 10) (H : Heap) : ∃ r : Int, AFunC Try.prog 139 [.int .u64 k] H (.int .i64 r) H := by
  have h1 : ¬ (4294967296 : Int) ≤ (k : Int) := by omega
  have h2 : ¬ (65536 : Int) ≤ (k : Int) := by omega
  have h3 : ¬ (256 : Int) ≤ (k : Int) := by omega
  match k, hk with
  | 0, _ =>
    refine ⟨0, ?_⟩
    refine AFunC.of_body Try.func139 (by kernel_rfl) rfl (by kernel_rfl) (by simp [Try.ntmps139]) ?_
    simp -dsimp -implicitDefEqProofs (disch := omega) [go_sem, -List.getD_eq_getElem?_getD, ite_yes]
    exact fin_flat0 rfl rfl
  | 1, _ =>
    refine ⟨1, ?_⟩
    refine AFunC.of_body Try.func139 (by kernel_rfl) rfl (by kernel_rfl) (by simp [Try.ntmps139]) ?_
    simp -dsimp -implicitDefEqProofs (disch := omega) [go_sem, -List.getD_eq_getElem?_getD, ite_yes]
    exact fin_flat0 rfl rfl
  | 2, _ =>
    refine ⟨2, ?_⟩
    refine AFunC.of_body Try.func139 (by kernel_rfl) rfl (by kernel_rfl) (by simp [Try.ntmps139]) ?_
    simp -dsimp -implicitDefEqProofs (disch := omega) [go_sem, -List.getD_eq_getElem?_getD, ite_yes]
    exact fin_flat0 rfl rfl
  | 3, _ =>
    refine ⟨2, ?_⟩
    refine AFunC.of_body Try.func139 (by kernel_rfl) rfl (by kernel_rfl) (by simp [Try.ntmps139]) ?_
    simp -dsimp -implicitDefEqProofs (disch := omega) [go_sem, -List.getD_eq_getElem?_getD, ite_yes]
    exact fin_flat0 rfl rfl
  | 4, _ =>
    refine ⟨3, ?_⟩
    refine AFunC.of_body Try.func139 (by kernel_rfl) rfl (by kernel_rfl) (by simp [Try.ntmps139]) ?_
    simp -dsimp -implicitDefEqProofs (disch := omega) [go_sem, -List.getD_eq_getElem?_getD, ite_yes]
    exact fin_flat0 rfl rfl
  | 5, _ =>
    refine ⟨3, ?_⟩
    refine AFunC.of_body Try.func139 (by kernel_rfl) rfl (by kernel_rfl) (by simp [Try.ntmps139]) ?_
    simp -dsimp -implicitDefEqProofs (disch := omega) [go_sem, -List.getD_eq_getElem?_getD, ite_yes]
    exact fin_flat0 rfl rfl
  | 6, _ =>
    refine ⟨3, ?_⟩
    refine AFunC.of_body Try.func139 (by kernel_rfl) rfl (by kernel_rfl) (by simp [Try.ntmps139]) ?_
    simp -dsimp -implicitDefEqProofs (disch := omega) [go_sem, -List.getD_eq_getElem?_getD, ite_yes]
    exact fin_flat0 rfl rfl
  | 7, _ =>
    refine ⟨3, ?_⟩
    refine AFunC.of_body Try.func139 (by kernel_rfl) rfl (by kernel_rfl) (by simp [Try.ntmps139]) ?_
    simp -dsimp -implicitDefEqProofs (disch := omega) [go_sem, -List.getD_eq_getElem?_getD, ite_yes]
    exact fin_flat0 rfl rfl
  | 8, _ =>
    refine ⟨4, ?_⟩
    refine AFunC.of_body Try.func139 (by kernel_rfl) rfl (by kernel_rfl) (by simp [Try.ntmps139]) ?_
    simp -dsimp -implicitDefEqProofs (disch := omega) [go_sem, -List.getD_eq_getElem?_getD, ite_yes]
    exact fin_flat0 rfl rfl
  | 9, _ =>
    refine ⟨4, ?_⟩
    refine AFunC.of_body Try.func139 (by kernel_rfl) rfl (by kernel_rfl) (by simp [Try.ntmps139]) ?_
    simp -dsimp -implicitDefEqProofs (disch := omega) [go_sem, -List.getD_eq_getElem?_getD, ite_yes]
    exact fin_flat0 rfl rfl
  | 10, _ =>
    refine ⟨4, ?_⟩
    refine AFunC.of_body Try.func139 (by kernel_rfl) rfl (by kernel_rfl) (by simp [Try.ntmps139]) ?_
    simp -dsimp -implicitDefEqProofs (disch := omega) [go_sem, -List.getD_eq_getElem?_getD, ite_yes]
    exact fin_flat0 rfl rfl
theorem len_A (k : Nat) (hk : k ≤ 10) (H : Heap) : ∃ r : Int, AFunC Try.prog 119 [.int .u64 k] H (.int .i64 r) H := by
  obtain ⟨r, A⟩ := len64_A k hk H
  refine ⟨r, ?_⟩
  refine AFunC.of_body Try.func119 (by kernel_rfl) rfl (by kernel_rfl) (by simp [Try.ntmps119]) ?_
  simp -dsimp -implicitDefEqProofs (disch := omega) [go_sem, -List.getD_eq_getElem?_getD, ite_yes]
  refine ACall.of A ?_
  simp -dsimp -implicitDefEqProofs (disch := omega) [go_sem, -List.getD_eq_getElem?_getD, ite_yes]
  exact fin_flat0 rfl rfl
theorem pdq_R (l : List Int) (hl : l.length ≤ 10) (c e : Nat) (lim : Int) (H : Heap) (t : Nat) (hb : H.get t = some ⟨l.flatMap nmE, true, e, 1⟩) :
    AFunR Try.prog 118 [.slice (some ⟨t, 0, none⟩) l.length c, .int .i64 0, .int .i64 l.length, .int .i64 lim] H (SortOut H t e l) := by
  refine AFunR.of_body Try.func118 (by kernel_rfl) rfl (by kernel_rfl) (by simp [Try.ntmps118]) ?_
  have ht := Heap.get_lt hb
  have h12 : (l.length : Int) ≤ 12 := by omega
  simp -dsimp -implicitDefEqProofs (disch := omega) [go_sem, -List.getD_eq_getElem?_getD, ite_yes, ht]
  refine ALoop.intro (ι := Unit) (fun _ => True) (fun _ => [(0, .slice (some ⟨t, 0, none⟩) l.length c), (1, .int .i64 0), (2, .int .i64 l.length)]) (fun _ => H) (fun _ => 0) () trivial ?_ ?_
  · exact weakS_same (by simp -dsimp -implicitDefEqProofs (disch := omega) [go_sem, -List.getD_eq_getElem?_getD, ite_yes, ht])
  intro _ _
  simp -dsimp -implicitDefEqProofs (disch := omega) [go_sem, -List.getD_eq_getElem?_getD, ite_yes, h12]
  refine ACall.via (insertionSort_R l (by omega) c e H t hb) ?_
  rintro v G ⟨m, rfl, h1, h2, rfl⟩
  simp -dsimp -implicitDefEqProofs (disch := omega) [go_sem, -List.getD_eq_getElem?_getD, ite_yes]
  exact EndR.of (.tuple #[]) (H.set t (some ⟨m.flatMap nmE, true, e, 1⟩)) ⟨m, rfl, h1, h2, rfl⟩ (fin_set ht (nmE_flat m) rfl rfl rfl rfl)
theorem sort_R (l : List Int) (hl : l.length ≤ 10) (c e : Nat) (H : Heap) (t : Nat) (hb : H.get t = some ⟨l.flatMap nmE, true, e, 1⟩) :
    AFunR Try.prog 93 [.slice (some ⟨t, 0, none⟩) l.length c] H (SortOut H t e l) := by
  obtain ⟨r, A⟩ := len_A l.length hl H
  refine AFunR.of_body Try.func93 (by kernel_rfl) rfl (by kernel_rfl) (by simp [Try.ntmps93]) ?_
  have ht := Heap.get_lt hb
  simp -dsimp -implicitDefEqProofs (disch := omega) [go_sem, -List.getD_eq_getElem?_getD, ite_yes, wrap_u64, ht]
  refine ACall.of A ?_
  simp -dsimp -implicitDefEqProofs (disch := omega) [go_sem, -List.getD_eq_getElem?_getD, ite_yes, ht]
  refine ACall.via (pdq_R l hl c e r H t hb) ?_
  rintro v G ⟨m, rfl, h1, h2, rfl⟩
  simp -dsimp -implicitDefEqProofs (disch := omega) [go_sem, -List.getD_eq_getElem?_getD, ite_yes]
  exact EndR.of (.tuple #[]) (H.set t (some ⟨m.flatMap nmE, true, e, 1⟩)) ⟨m, rfl, h1, h2, rfl⟩ (fin_set ht (nmE_flat m) rfl rfl rfl rfl)
theorem equalNm_A (l m : List Int) (hl : l.length ≤ 1048577) (hm : m.length ≤ 1048577) (c d : Nat) (H : Heap) (t u : Nat) (hS : Sl nmE H t l) (hU : Sl nmE H u m) :
    AFunC Try.prog 94 [.slice (some ⟨t, 0, none⟩) l.length c, .slice (some ⟨u, 0, none⟩) m.length d] H (.bool (decide (l = m))) H := by
  refine AFunC.of_body Try.func94 (by kernel_rfl) rfl (by kernel_rfl) (by simp [Try.ntmps94]) ?_
  have ht := hS.lt
  have hu := hU.lt
  have cs := fun k hk => hS.one (g := fun n => Value.int .i64 n) 0 k hk
  have cu := fun k hk => hU.one (g := fun n => Value.int .i64 n) 0 k hk
  by_cases hlm : l.length = m.length
  rotate_left
  · have h2 : ¬ (l.length : Int) = (m.length : Int) := by omega
    simp -dsimp -implicitDefEqProofs (disch := omega) [go_sem, -List.getD_eq_getElem?_getD, ite_yes, h2, hlm]
    exact fin_flat0 rfl (by rw [decide_eq_false (fun e => hlm (by rw [e]))])
  have h2 : (l.length : Int) = (m.length : Int) := by omega
  simp -dsimp -implicitDefEqProofs (disch := omega) [go_sem, -List.getD_eq_getElem?_getD, ite_yes, h2, hlm]
  refine ALoop.intro (ι := Nat) (fun k => k ≤ m.length ∧ ∀ i, i < k → l.getD i 0 = m.getD i 0) (fun k => [(0, .slice (some ⟨t, 0, none⟩) l.length c), (1, .slice (some ⟨u, 0, none⟩) m.length d), (12, .int .i64 m.length), (13, .int .i64 k)]) (fun _ => H) (fun k => m.length - k) 0 ⟨by omega, fun i hi => by omega⟩ ?_ ?_
  · exact weakS_same (by simp -dsimp -implicitDefEqProofs (disch := omega) [go_sem, -List.getD_eq_getElem?_getD, ite_yes, ht, hu, hlm])
  · rintro k ⟨hk, hf⟩
    by_cases hlt : k < m.length
    · have hlt2 : k < l.length := by omega
      have c1 := cs k hlt2
      have c2 := cu k hlt
      simp -dsimp -implicitDefEqProofs (disch := omega) [go_sem, -List.getD_eq_getElem?_getD, ite_yes, hlt, hlt2, ht, hu]
      refine ADraw.quiet (by kernel_rfl) (by kernel_rfl) (by kernel_rfl) ?_
      by_cases h : l.getD k 0 = m.getD k 0
      · simp -dsimp -implicitDefEqProofs (disch := omega) [go_sem, -List.getD_eq_getElem?_getD, ite_yes, hlt, hlt2, c1, c2, ht, hu, h]
        refine LoopEnd.of (k + 1) ⟨by omega, fun i hi => ?_⟩ (by omega) (weakS_same (by simp -dsimp -implicitDefEqProofs (disch := omega) [go_sem, -List.getD_eq_getElem?_getD, ite_yes, ht, hu]))
        rcases Nat.lt_or_ge i k with h' | h'
        · exact hf i h'
        · rw [show i = k by omega]; exact h
      · simp -dsimp -implicitDefEqProofs (disch := omega) [go_sem, -List.getD_eq_getElem?_getD, ite_yes, hlt, hlt2, c1, c2, ht, hu, h]
        exact fin_flat0 rfl (by rw [decide_eq_false (fun e => h (by rw [e]))])
    · simp -dsimp -implicitDefEqProofs (disch := omega) [go_sem, -List.getD_eq_getElem?_getD, ite_yes, hlt]
      have : l = m := by
        refine List.ext_getElem hlm fun i h1 h2 => ?_
        have := hf i (by omega)
        simpa [List.getD_eq_getElem?_getD, h1, h2] using this
      exact fin_flat0 rfl (by rw [decide_eq_true this])
end Go.Proofs.Ytncblopbcnkinaa
/- Copies of numbers. -/
namespace Go.Proofs.Ytncblopbcnkinaa
open Go.Am
set_option linter.unusedVariables false
set_option linter.unusedSimpArgs false
set_option maxRecDepth 100000
theorem copyInts_A (a : List Int) (ha : a.length ≤ 1048577) (c2 : Nat) (H : Heap) (u : Nat) (hU : Sl nmE H u a) :
    AFunC Try.prog 92 [.slice (some ⟨u, 0, none⟩) a.length c2] H (.slice (some ⟨H.length, 0, none⟩) a.length a.length) (H ++ [some ⟨a.flatMap nmE, true, 3, 1⟩]) := by
  refine AFunC.of_body Try.func92 (by kernel_rfl) rfl (by kernel_rfl) (by simp [Try.ntmps92]) ?_
  have hu := hU.lt
  have al := hU.all (s := 1) (fun _ => rfl)
  rw [Nat.mul_one] at al
  simp -dsimp -implicitDefEqProofs (disch := omega) [go_sem, -List.getD_eq_getElem?_getD, ite_yes, hu, al]
  refine ⟨by omega, fin_list [some 1] rfl ?_ (by simp -dsimp -implicitDefEqProofs (disch := omega) [go_sem, -List.getD_eq_getElem?_getD, ite_yes, hu])⟩
  simp -dsimp -implicitDefEqProofs (disch := omega) [go_sem, -List.getD_eq_getElem?_getD, ite_yes]
  exact .inl ⟨rfl, nmE_flat _⟩
end Go.Proofs.Ytncblopbcnkinaa
/- IsOrder: both sides. -/
namespace Go.Proofs.Ytncblopbcnkinaa
open Go.Am
set_option linter.unusedVariables false
set_option linter.unusedSimpArgs false
set_option maxRecDepth 100000
set_option maxHeartbeats 4000000

/-- whether numbers are the shut valves in some order -/
def ordTo (l : List Vl) (a : List Int) (k : Nat) : Prop := ∀ i, i < k → hasI (shutL l) (a.getD i 0) = true ∧ hasI (a.take i) (a.getD i 0) = false
instance ordTo_dec (l : List Vl) (a : List Int) (k : Nat) : Decidable (ordTo l a k) := by unfold ordTo; infer_instance
def ordB (l : List Vl) (a : List Int) : Bool := decide (a.length = (shutL l).length) && decide (ordTo l a a.length)
def isOrd (n : Int) (ps : List Pp) (l : List Vl) (src : Int) (a : List Int) : Bool := askR n ps l src && ordB l a
theorem nodup_of {a : List Int} (h : ∀ i, i < a.length → hasI (a.take i) (a.getD i 0) = false) : a.Nodup := by
  refine List.pairwise_iff_getElem.2 fun i j hi hj hij e => ?_
  have := of_decide_eq_false (h j hj)
  refine this (List.mem_iff_getElem.2 ⟨i, by rw [List.length_take]; omega, ?_⟩)
  rw [List.getElem_take, e, List.getD_eq_getElem?_getD, List.getElem?_eq_getElem hj]; rfl
theorem of_nodup {a : List Int} (h : a.Nodup) {i : Nat} (hi : i < a.length) : hasI (a.take i) (a.getD i 0) = false := by
  refine decide_eq_false fun hm => ?_
  obtain ⟨j, hj, e⟩ := List.mem_iff_getElem.1 hm
  rw [List.length_take] at hj
  rw [List.getElem_take, List.getD_eq_getElem?_getD, List.getElem?_eq_getElem hi] at e
  exact List.pairwise_iff_getElem.1 h j i (by omega) hi (by omega) e
theorem perm_of_sub : ∀ {a b : List Int}, a.Nodup → (∀ x ∈ a, x ∈ b) → b.length ≤ a.length → a.Perm b
  | [], b, _, _, h => by
    have : b = [] := List.length_eq_zero_iff.1 (by simpa using h)
    rw [this]
  | x :: a, b, hn, hs, hl => by
    have hn' := List.pairwise_cons.1 hn
    obtain ⟨s, t, rfl⟩ := List.append_of_mem (hs x (by simp))
    have : a.Perm (s ++ t) := perm_of_sub hn'.2 (fun y hy => by
      have := hs y (List.mem_cons_of_mem _ hy)
      rcases List.mem_append.1 this with h | h
      · exact List.mem_append_left _ h
      · rcases List.mem_cons.1 h with rfl | h
        · exact absurd rfl (hn'.1 y hy)
        · exact List.mem_append_right _ h) (by simp at hl ⊢; omega)
    exact (List.Perm.cons x this).trans List.perm_middle.symm
theorem vl_asc {n : Int} {ps : List Pp} {l : List Vl} (h : goodV n ps l = true) : ∀ (i d : Nat), i + d + 1 < l.length → (l.getD i vl0).1 < (l.getD (i + d + 1) vl0).1
  | i, d, hi => by
    have st : ∀ j, j + 1 < l.length → (l.getD j vl0).1 < (l.getD (j + 1) vl0).1 := fun j hj => by
      unfold goodV at h
      simp only [Bool.and_eq_true, decide_eq_true_eq] at h
      have := h.2.2 (j + 1) hj
      unfold oneV at this
      simp only [Bool.and_eq_true, Bool.not_eq_true', Bool.and_eq_false_iff, decide_eq_false_iff_not, Nat.add_sub_cancel] at this
      rcases this.2.1 with h1 | h1
      · omega
      · omega
    induction d with
    | zero => exact st i hi
    | succ d ih => have := ih (by omega); have := st (i + d + 1) (by omega); rw [show i + (d + 1) + 1 = i + d + 1 + 1 by omega]; omega
theorem shutTo_up {n : Int} {ps : List Pp} {l : List Vl} (h : goodV n ps l = true) : ∀ k, k ≤ l.length → Up (shutTo l k) ∧ ∀ x ∈ shutTo l k, ∃ i, i < k ∧ x = (l.getD i vl0).1
  | 0, _ => ⟨List.Pairwise.nil, fun x hx => absurd hx (by simp [shutTo])⟩
  | k + 1, hk => by
    obtain ⟨h1, h2⟩ := shutTo_up h k (by omega)
    rw [shutTo]
    split
    · refine ⟨List.pairwise_append.2 ⟨h1, List.pairwise_singleton _ _, fun x hx y hy => ?_⟩, fun x hx => ?_⟩
      · obtain ⟨i, hi, rfl⟩ := h2 x hx
        rw [List.mem_singleton.1 hy]
        obtain ⟨d, rfl⟩ : ∃ d, k = i + d + 1 := ⟨k - i - 1, by omega⟩
        exact vl_asc h i d (by omega)
      · rcases List.mem_append.1 hx with hx | hx
        · obtain ⟨i, hi, e⟩ := h2 x hx
          exact ⟨i, by omega, e⟩
        · exact ⟨k, by omega, List.mem_singleton.1 hx⟩
    · refine ⟨h1, fun x hx => ?_⟩
      obtain ⟨i, hi, e⟩ := h2 x hx
      exact ⟨i, by omega, e⟩
theorem ordB_perm {l : List Vl} {a : List Int} (h : ordB l a = true) : a.Perm (shutL l) := by
  unfold ordB at h
  simp only [Bool.and_eq_true, decide_eq_true_eq] at h
  refine perm_of_sub (nodup_of fun i hi => (h.2 i hi).2) (fun x hx => ?_) (by omega)
  obtain ⟨i, hi, e⟩ := List.mem_iff_getElem.1 hx
  have := of_decide_eq_true (h.2 i hi).1
  rwa [List.getD_eq_getElem?_getD, List.getElem?_eq_getElem hi, Option.getD_some, e] at this
theorem ordB_sorted {n : Int} {ps : List Pp} {l : List Vl} (hg : goodV n ps l = true) {a m : List Int} (hm : m.Perm a) (hs : Srt m) : decide (m = shutL l) = ordB l a := by
  have hu := (shutTo_up hg l.length (Nat.le_refl _)).1
  cases ho : ordB l a
  · refine decide_eq_false fun e => ?_
    have hp : a.Perm (shutL l) := by rw [← e]; exact hm.symm
    have hnd : a.Nodup := hp.nodup_iff.2 (hu.imp fun h => by omega)
    have : ordB l a = true := by
      unfold ordB
      have h2 : ordTo l a a.length := fun i hi => ⟨by
        refine decide_eq_true (hp.mem_iff.1 ?_)
        rw [List.getD_eq_getElem?_getD, List.getElem?_eq_getElem hi]
        exact List.getElem_mem hi, of_nodup hnd hi⟩
      rw [decide_eq_true hp.length_eq, decide_eq_true h2]; rfl
    rw [this] at ho; cases ho
  · exact decide_eq_true (srt_perm_eq (hm.trans (ordB_perm ho)) hs (hu.imp fun h => by omega))
theorem iIsOrder_A (n : Int) (ps : List Pp) (hps : ps.length ≤ 1048577) (cp : Nat) (l : List Vl) (hl : l.length ≤ 1048577) (c : Nat) (src : Int) (a : List Int) (ha : a.length ≤ 1048577) (d : Nat) (H : Heap) (tp t u : Nat) (hP : Sl ppE H tp ps) (hS : Sl vlE H t l) (hU : Sl nmE H u a) :
    AFunC Try.prog 65 [netV n tp ps.length cp, .slice (some ⟨t, 0, none⟩) l.length c, .int .i64 src, .slice (some ⟨u, 0, none⟩) a.length d] H (.bool (isOrd n ps l src a)) H := by
  refine AFunC.of_body Try.func65 (by kernel_rfl) rfl (by kernel_rfl) (by simp [Try.ntmps65]) ?_
  have htp := hP.lt
  have ht := hS.lt
  have hu := hU.lt
  simp -dsimp -implicitDefEqProofs (disch := omega) [go_sem, -List.getD_eq_getElem?_getD, ite_yes, htp, ht, hu]
  refine ACall.of (canReopen_A n ps hps cp l hl c src _ tp t hP.app hS.app) ?_
  cases hq : askR n ps l src
  · simp -dsimp -implicitDefEqProofs (disch := omega) [go_sem, -List.getD_eq_getElem?_getD, ite_yes]
    exact fin_flat rfl (by rw [isOrd, hq, Bool.false_and])
  obtain ⟨hg, hN, hl10, hsrc, hs6⟩ := askR_at hq
  by_cases h10 : 10 < a.length
  · have h10' : (10 : Int) < (a.length : Int) := by omega
    simp -dsimp -implicitDefEqProofs (disch := omega) [go_sem, -List.getD_eq_getElem?_getD, ite_yes, h10, h10']
    exact fin_flat rfl (by rw [isOrd, hq, ordB, decide_eq_false (by omega)]; rfl)
  have h10' : ¬ (10 : Int) < (a.length : Int) := by omega
  simp -dsimp -implicitDefEqProofs (disch := omega) [go_sem, -List.getD_eq_getElem?_getD, ite_yes, h10, h10', htp, ht, hu]
  refine ACall.of (copyInts_A a ha d _ u hU.app) ?_
  simp -dsimp -implicitDefEqProofs (disch := omega) [go_sem, -List.getD_eq_getElem?_getD, ite_yes, htp, ht, hu]
  refine ACall.via (sort_R a (by omega) a.length 3 _ (H.length + 1) ((Heap.get_len_add _ _ 1).trans rfl)) ?_
  rintro v G ⟨m, rfl, h1, h2, rfl⟩
  have hml := h1.length_eq
  simp -dsimp -implicitDefEqProofs (disch := omega) [go_sem, -List.getD_eq_getElem?_getD, ite_yes, htp, ht, hu]
  refine ACall.of (shutIds_A l hl c _ t hS.app) ?_
  simp -dsimp -implicitDefEqProofs (disch := omega) [go_sem, -List.getD_eq_getElem?_getD, ite_yes, htp, ht, hu]
  refine ACall.of (hml ▸ equalNm_A m (shutL l) (by omega) (by omega) a.length 0 _ (H.length + 1) (H.length + 2) (Sl.of1 rfl) (Sl.nth 2 rfl rfl)) ?_
  simp -dsimp -implicitDefEqProofs (disch := omega) [go_sem, -List.getD_eq_getElem?_getD, ite_yes]
  exact fin_flat rfl (by rw [isOrd, hq, ordB_sorted hg h1 h2, Bool.true_and])
theorem l18Order_A (n : Int) (ps : List Pp) (hps : ps.length ≤ 1048577) (cp : Nat) (l : List Vl) (hl : l.length ≤ 1048577) (c : Nat) (src : Int) (a : List Int) (ha : a.length ≤ 1048577) (d : Nat) (H : Heap) (tp t u : Nat) (hP : Sl ppE H tp ps) (hS : Sl vlE H t l) (hU : Sl nmE H u a) :
    AFunC Try.prog 68 [netV n tp ps.length cp, .slice (some ⟨t, 0, none⟩) l.length c, .int .i64 src, .slice (some ⟨u, 0, none⟩) a.length d] H (.bool (isOrd n ps l src a)) H := by
  refine AFunC.of_body Try.func68 (by kernel_rfl) rfl (by kernel_rfl) (by simp [Try.ntmps68]) ?_
  have htp := hP.lt
  have ht := hS.lt
  have hu := hU.lt
  have hsl := shutL_length l
  have ca := fun k hk => hU.one (g := fun n => Value.int .i64 n) 0 k hk
  simp -dsimp -implicitDefEqProofs (disch := omega) [go_sem, -List.getD_eq_getElem?_getD, ite_yes, htp, ht, hu]
  refine ACall.of (l18Asked_A n ps hps cp l hl c src _ tp t hP.app hS.app) ?_
  cases hq : askR n ps l src
  · simp -dsimp -implicitDefEqProofs (disch := omega) [go_sem, -List.getD_eq_getElem?_getD, ite_yes]
    exact fin_flat rfl (by rw [isOrd, hq, Bool.false_and])
  obtain ⟨hg, hN, hl10, hsrc, hs6⟩ := askR_at hq
  simp -dsimp -implicitDefEqProofs (disch := omega) [go_sem, -List.getD_eq_getElem?_getD, ite_yes, htp, ht, hu]
  refine ACall.of (l18Shut_A l hl c _ t hS.app) ?_
  by_cases hlen : a.length = (shutL l).length
  rotate_left
  · have hlen' : ¬ (a.length : Int) = ((shutL l).length : Int) := by omega
    simp -dsimp -implicitDefEqProofs (disch := omega) [go_sem, -List.getD_eq_getElem?_getD, ite_yes, hlen, hlen']
    exact fin_flat rfl (by rw [isOrd, hq, ordB, decide_eq_false hlen]; rfl)
  have hlen' : (a.length : Int) = ((shutL l).length : Int) := by omega
  simp -dsimp -implicitDefEqProofs (disch := omega) [go_sem, -List.getD_eq_getElem?_getD, ite_yes, hlen, hlen', htp, ht, hu]
  refine ACall.of (l18Shut_A l hl c _ t hS.app) ?_
  simp -dsimp -implicitDefEqProofs (disch := omega) [go_sem, -List.getD_eq_getElem?_getD, ite_yes, htp, ht, hu]
  refine ALoop.intro (ι := Nat) (fun k => k ≤ a.length ∧ ordTo l a k) (fun k => [(3, .slice (some ⟨u, 0, none⟩) a.length d), (9, .slice (some ⟨H.length, 0, none⟩) (shutL l).length 0), (10, .int .i64 k)]) (fun _ => H ++ [some ⟨(shutL l).flatMap nmE, true, 3, 1⟩]) (fun k => a.length - k) 0 ⟨by omega, fun i hi => by omega⟩ ?_ ?_
  · refine weakS_mk [some 2] rfl ?_ (by simp -dsimp -implicitDefEqProofs (disch := omega) [go_sem, -List.getD_eq_getElem?_getD, ite_yes, hu]; omega)
    simp -dsimp -implicitDefEqProofs (disch := omega) [go_sem, -List.getD_eq_getElem?_getD, ite_yes]
    exact .inl ⟨rfl, nmE_flat _⟩
  rintro k ⟨hk, hf⟩
  have hno : k < a.length → (hasI (shutL l) (a.getD k 0) = false ∨ hasI (a.take k) (a.getD k 0) = true) → isOrd n ps l src a = false := fun hlt h => by
    rw [isOrd, hq, ordB, decide_eq_false (p := ordTo l a a.length) (fun h' => ?_)]
    · simp
    · have := h' k hlt
      rcases h with h | h
      · rw [this.1] at h; cases h
      · rw [this.2] at h; cases h
  by_cases hlt : k < a.length
  · have hltn : (k : Int) < (a.length : Int) := by omega
    have c1 := ca k hlt
    have hS2 : Sl nmE (H ++ [some ⟨(shutL l).flatMap nmE, true, 3, 1⟩]) H.length (shutL l) := Sl.of rfl
    have A1 := l1Has_A (shutL l) (a.getD k 0) (by omega) 0 _ H.length hS2.ro
    have A2 := l1Has_A (a.take k) (a.getD k 0) (by rw [List.length_take]; omega) k _ u ((hU.app (L := [some ⟨(shutL l).flatMap nmE, true, 3, 1⟩])).take k).ro
    rw [List.length_take_of_le hk] at A2
    have hz0 : ∀ x : Nat, (x = 0 ∨ x = x) := fun _ => .inr rfl
    simp -dsimp -implicitDefEqProofs (disch := omega) [go_sem, -List.getD_eq_getElem?_getD, ite_yes, hlt, hltn, hu]
    refine ADraw.quiet (by kernel_rfl) (by kernel_rfl) (by kernel_rfl) ?_
    simp -dsimp -implicitDefEqProofs (disch := omega) [go_sem, -List.getD_eq_getElem?_getD, ite_yes, hlt, hltn, hk, c1, hu]
    refine ACallQ.of A1 rfl ?_
    cases e1 : hasI (shutL l) (a.getD k 0)
    · simp -dsimp -implicitDefEqProofs (disch := omega) [go_sem, -List.getD_eq_getElem?_getD, ite_yes]
      exact fin_flat rfl (by rw [hno hlt (.inl e1)])
    simp -dsimp -implicitDefEqProofs (disch := omega) [go_sem, -List.getD_eq_getElem?_getD, ite_yes, hlt, hltn, hk, c1, hu]
    refine ACallQ.of A2 rfl ?_
    cases e2 : hasI (a.take k) (a.getD k 0)
    · simp -dsimp -implicitDefEqProofs (disch := omega) [go_sem, -List.getD_eq_getElem?_getD, ite_yes, hltn]
      refine LoopEnd.of (k + 1) ⟨by omega, fun i hi => ?_⟩ (by omega) (weakS_mk [some 0] rfl ?_ (by simp -dsimp -implicitDefEqProofs (disch := omega) [go_sem, -List.getD_eq_getElem?_getD, ite_yes, hu]))
      · rcases Nat.lt_or_ge i k with h' | h'
        · exact hf i h'
        · rw [show i = k by omega]; exact ⟨e1, e2⟩
      · simp -dsimp -implicitDefEqProofs (disch := omega) [go_sem, -List.getD_eq_getElem?_getD, ite_yes]
        exact .inl ⟨rfl, nmE_flat _⟩
    · simp -dsimp -implicitDefEqProofs (disch := omega) [go_sem, -List.getD_eq_getElem?_getD, ite_yes]
      exact fin_flat rfl (by rw [hno hlt (.inr e2)])
  · have hltn : ¬ (k : Int) < (a.length : Int) := by omega
    obtain rfl : k = a.length := by omega
    simp -dsimp -implicitDefEqProofs (disch := omega) [go_sem, -List.getD_eq_getElem?_getD, ite_yes, hltn]
    exact fin_flat rfl (by rw [isOrd, hq, ordB, decide_eq_true hlen, decide_eq_true hf]; rfl)
end Go.Proofs.Ytncblopbcnkinaa
/- IsGentle: both sides. -/
namespace Go.Proofs.Ytncblopbcnkinaa
open Go.Am
set_option linter.unusedVariables false
set_option linter.unusedSimpArgs false
set_option maxRecDepth 100000
set_option maxHeartbeats 4000000

def vlIs (id : Int) (v : Vl) : Bool := decide (v.1 = id)
/-- the valve with an Id -/
def vlAt (l : List Vl) (id : Int) : Vl := l.getD (ixOf (vlIs id) l).toNat vl0
/-- whether water reaches the pipe or the node of a valve -/
def tchB (ps : List Pp) (R : List Bool) (v : Vl) : Bool := R.getD v.2.2.1.toNat false || R.getD (9 + (pipeIx ps v.2.1).toNat) false
theorem vl_ok {n : Int} {ps : List Pp} {l : List Vl} (h : goodV n ps l = true) {i : Nat} (hi : i < l.length) : (∃ q : Nat, pipeIx ps (l.getD i vl0).2.1 = (q : Int) ∧ q < ps.length) ∧ 1 ≤ (l.getD i vl0).2.2.1 ∧ (l.getD i vl0).2.2.1 ≤ n := by
  have hN := (goodV_net h).1
  unfold goodV at h
  simp only [Bool.and_eq_true, decide_eq_true_eq] at h
  have := h.2.2 i hi
  unfold oneV at this
  simp only [Bool.and_eq_true] at this
  have ho := this.2.2.1
  unfold onP at ho
  simp only [Bool.and_eq_true, Bool.or_eq_true, decide_eq_true_eq] at ho
  rcases ix_cases pp0 (pipeIs (l.getD i vl0).2.1) ps with ⟨h1, _⟩ | ⟨q, h1, h2, _⟩
  · have : pipeIx ps (l.getD i vl0).2.1 = -1 := h1
    omega
  · have hp : pipeIx ps (l.getD i vl0).2.1 = (q : Int) := h1
    rw [hp, Int.toNat_natCast] at ho
    have := hN.f_end q h2
    refine ⟨⟨q, hp, h2⟩, ?_⟩
    rcases ho.2 with e | e <;> omega
theorem shutTo_mem (l : List Vl) : ∀ (k : Nat), ∀ x ∈ shutTo l k, ∃ i, i < k ∧ x = (l.getD i vl0).1
  | 0, x, h => absurd h (by simp [shutTo])
  | k + 1, x, h => by
    rw [shutTo] at h
    split at h
    · rcases List.mem_append.1 h with h | h
      · obtain ⟨i, hi, e⟩ := shutTo_mem l k x h; exact ⟨i, by omega, e⟩
      · exact ⟨k, by omega, List.mem_singleton.1 h⟩
    · obtain ⟨i, hi, e⟩ := shutTo_mem l k x h; exact ⟨i, by omega, e⟩
theorem vlIs_ix {l : List Vl} {id : Int} (h : hasI (shutL l) id = true) : ∃ q : Nat, ixOf (vlIs id) l = (q : Int) ∧ q < l.length ∧ vlAt l id = l.getD q vl0 := by
  obtain ⟨i, hi, e⟩ := shutTo_mem l l.length id (of_decide_eq_true h)
  rcases ix_cases vl0 (vlIs id) l with ⟨_, h2⟩ | ⟨q, h1, h2, _⟩
  · have := of_decide_eq_false (h2 i hi)
    exact absurd e.symm this
  · exact ⟨q, h1, h2, by rw [vlAt, h1, Int.toNat_natCast]⟩
theorem valveIndex1_A (v : Vl) (id : Int) (H : Heap) (u : Nat) (hl : u < H.length) (cu : aCells H ⟨u, 0, none⟩ 1 = some [.int .i64 id]) :
    AFunC Try.prog 109 [.agg #[.int .i64 v.1, .int .i64 v.2.1, .int .i64 v.2.2.1, .bool v.2.2.2], .pointer (some ⟨u, 0, none⟩)] H (.bool (vlIs id v)) H := by
  refine AFunC.of_body Try.func109 (by kernel_rfl) rfl (by kernel_rfl) (by simp [Try.ntmps109]) ?_
  simp -dsimp -implicitDefEqProofs (disch := omega) [go_sem, -List.getD_eq_getElem?_getD, ite_yes, cu, hl]
  exact fin_flat rfl rfl
theorem valveIndex_A (l : List Vl) (hl : l.length ≤ 1048577) (c : Nat) (id : Int) (H : Heap) (t : Nat) (hS : Sl vlE H t l) :
    AFunC Try.prog 77 [.slice (some ⟨t, 0, none⟩) l.length c, .int .i64 id] H (.int .i64 (ixOf (vlIs id) l)) H := by
  refine AFunC.of_body Try.func77 (by kernel_rfl) rfl (by kernel_rfl) (by simp [Try.ntmps77]) ?_
  have ht := hS.lt
  simp -dsimp -implicitDefEqProofs (disch := omega) [go_sem, -List.getD_eq_getElem?_getD, ite_yes, ht]
  have A := indexFuncVl_A l (vlIs id) 109 #[.pointer (some ⟨H.length, 0, none⟩)] hl c (H ++ [some ⟨[.int .i64 id], true, 3, 1⟩]) t hS.app (by simp -dsimp -implicitDefEqProofs (disch := omega) [go_sem, -List.getD_eq_getElem?_getD, ite_yes, ht])
    (fun k hk => valveIndex1_A _ _ _ _ (by simp) (by simp -dsimp -implicitDefEqProofs (disch := omega) [go_sem, -List.getD_eq_getElem?_getD, ite_yes, ht]))
  refine ACall.of A ?_
  simp -dsimp -implicitDefEqProofs (disch := omega) [go_sem, -List.getD_eq_getElem?_getD, ite_yes]
  exact fin_flat rfl rfl
theorem mem_dryN {R : List Bool} {j : Nat} : ∀ k, (((j : Nat) : Int) ∈ dryN R k) ↔ (1 ≤ j ∧ j ≤ k ∧ R.getD j false = false)
  | 0 => by simp [dryN]; omega
  | k + 1 => by
    rw [dryN]
    have ih := mem_dryN (R := R) (j := j) k
    split
    · rename_i h
      rw [ih]
      constructor
      · rintro ⟨h1, h2, h3⟩; exact ⟨h1, by omega, h3⟩
      · rintro ⟨h1, h2, h3⟩
        refine ⟨h1, ?_, h3⟩
        rcases Nat.lt_or_ge j (k + 1) with h' | h'
        · omega
        · obtain rfl : j = k + 1 := by omega
          rw [h] at h3; cases h3
    · rename_i h
      rw [List.mem_append, ih, List.mem_singleton]
      constructor
      · rintro (⟨h1, h2, h3⟩ | e)
        · exact ⟨h1, by omega, h3⟩
        · obtain rfl : j = k + 1 := by omega
          exact ⟨by omega, by omega, by simpa using h⟩
      · rintro ⟨h1, h2, h3⟩
        rcases Nat.lt_or_ge j (k + 1) with h' | h'
        · exact .inl ⟨h1, by omega, h3⟩
        · exact .inr (by omega)
theorem mem_dryP {R : List Bool} {j : Nat} : ∀ k, (((j : Nat) : Int) ∈ dryP R k) ↔ (j < k ∧ R.getD (9 + j) false = false)
  | 0 => by simp [dryP]
  | k + 1 => by
    rw [dryP]
    have ih := mem_dryP (R := R) (j := j) k
    split
    · rename_i h
      rw [ih]
      constructor
      · rintro ⟨h2, h3⟩; exact ⟨by omega, h3⟩
      · rintro ⟨h2, h3⟩
        refine ⟨?_, h3⟩
        rcases Nat.lt_or_ge j k with h' | h'
        · omega
        · obtain rfl : j = k := by omega
          rw [h] at h3; cases h3
    · rename_i h
      rw [List.mem_append, ih, List.mem_singleton]
      constructor
      · rintro (⟨h2, h3⟩ | e)
        · exact ⟨by omega, h3⟩
        · obtain rfl : j = k := by omega
          exact ⟨by omega, by simpa using h⟩
      · rintro ⟨h2, h3⟩
        rcases Nat.lt_or_ge j k with h' | h'
        · exact .inl ⟨h', h3⟩
        · exact .inr (by omega)
theorem has_dryN {R : List Bool} {j k : Nat} (h1 : 1 ≤ j) (h2 : j ≤ k) : hasI (dryN R k) (j : Int) = !R.getD j false := by
  unfold hasI
  rw [decide_eq_decide.2 (mem_dryN k)]
  by_cases h : R.getD j false = true
  · rw [show (!R.getD j false) = false by rw [h]; rfl]
    exact decide_eq_false fun h' => by rw [h] at h'; cases h'.2.2
  · have h' : R.getD j false = false := by simpa using h
    rw [show (!R.getD j false) = true by rw [h']; rfl]
    exact decide_eq_true ⟨h1, h2, h'⟩
theorem has_dryP {R : List Bool} {j k : Nat} (h2 : j < k) : hasI (dryP R k) (j : Int) = !R.getD (9 + j) false := by
  unfold hasI
  rw [decide_eq_decide.2 (mem_dryP k)]
  by_cases h : R.getD (9 + j) false = true
  · rw [show (!R.getD (9 + j) false) = false by rw [h]; rfl]
    exact decide_eq_false fun h' => by rw [h] at h'; cases h'.2
  · have h' : R.getD (9 + j) false = false := by simpa using h
    rw [show (!R.getD (9 + j) false) = true by rw [h']; rfl]
    exact decide_eq_true ⟨h2, h'⟩
theorem opL_congr (l : List Vl) {a b : List Int} (h : ∀ x, hasI a x = hasI b x) : opL l a = opL l b := by
  refine List.ext_getElem (by rw [opL_length, opL_length]) fun i h1 h2 => ?_
  rw [opL_length] at h1
  have e1 := opL_getD l a h1
  have e2 := opL_getD l b h1
  have : opV a (l.getD i vl0) = opV b (l.getD i vl0) := by unfold opV; rw [h]
  rw [this, ← e2, List.getD_eq_getElem?_getD, List.getElem?_eq_getElem (by rw [opL_length]; exact h1), List.getD_eq_getElem?_getD, List.getElem?_eq_getElem (by rw [opL_length]; exact h1)] at e1
  simpa using e1
theorem opL_perm (l : List Vl) {a b : List Int} (h : a.Perm b) : opL l a = opL l b := opL_congr l fun x => by unfold hasI; rw [decide_eq_decide]; exact h.mem_iff
/-- whether water reaches a valve after some are opened -/
def rchB (ps : List Pp) (l : List Vl) (src : Int) (ids : List Int) (id : Int) : Bool := tchB ps (wetR ps (opL l ids) src) (vlAt l id)
/-- whether a step is gentle -/
def gtlB (ps : List Pp) (l : List Vl) (src : Int) (a : List Int) (k : Nat) : Bool := rchB ps l src (a.take k) (a.getD k 0) || !rchB ps l src (shutL l) (a.getD k 0)
def gtlTo (ps : List Pp) (l : List Vl) (src : Int) (a : List Int) (k : Nat) : Prop := ∀ i, i < k → gtlB ps l src a i = true
instance gtlTo_dec (ps : List Pp) (l : List Vl) (src : Int) (a : List Int) (k : Nat) : Decidable (gtlTo ps l src a k) := by unfold gtlTo; infer_instance
def gtlN (ps : List Pp) (l : List Vl) (src : Int) (a : List Int) : Bool := decide (gtlTo ps l src a a.length)
theorem gtlN_no {ps : List Pp} {l : List Vl} {src : Int} {a : List Int} {k : Nat} (hk : k < a.length) (h : gtlB ps l src a k = false) : gtlN ps l src a = false :=
  decide_eq_false fun h' => by have := h' k hk; rw [h] at this; cases this
theorem gtlTo.next {ps : List Pp} {l : List Vl} {src : Int} {a : List Int} {k : Nat} (h : gtlTo ps l src a k) (h1 : gtlB ps l src a k = true) : gtlTo ps l src a (k + 1) := by
  intro i hi
  rcases Nat.lt_or_ge i k with h' | h'
  · exact h i h'
  · obtain rfl : i = k := by omega
    exact h1
end Go.Proofs.Ytncblopbcnkinaa
/- Nodes that become wet, plain. -/
namespace Go.Proofs.Ytncblopbcnkinaa
open Go.Am
set_option linter.unusedVariables false
/-- the first k nodes that are wet in S and not in R -/
def nwTo (R S : List Bool) : Nat → List Int
  | 0 => []
  | k + 1 => if (S.getD (k + 1) false && !R.getD (k + 1) false) = true then nwTo R S k ++ [((k + 1 : Nat) : Int)] else nwTo R S k
theorem nwTo_length (R S : List Bool) : ∀ k, (nwTo R S k).length ≤ k
  | 0 => by simp [nwTo]
  | k + 1 => by
    have := nwTo_length R S k
    rw [nwTo]
    split
    · rw [List.length_append, List.length_singleton]; omega
    · omega
/-- those of the first k of a list that are none of another -/
def spTo (D E : List Int) : Nat → List Int
  | 0 => []
  | k + 1 => if hasI E (D.getD k 0) = true then spTo D E k else spTo D E k ++ [D.getD k 0]
theorem spTo_length (D E : List Int) : ∀ k, (spTo D E k).length ≤ k
  | 0 => by simp [spTo]
  | k + 1 => by
    have := spTo_length D E k
    rw [spTo]
    split
    · omega
    · rw [List.length_append, List.length_singleton]; omega
theorem spTo_left (D F E : List Int) : ∀ k, k ≤ D.length → spTo (D ++ F) E k = spTo D E k
  | 0, _ => rfl
  | k + 1, h => by
    have g : (D ++ F).getD k 0 = D.getD k 0 := by
      rw [List.getD_eq_getElem?_getD, List.getD_eq_getElem?_getD, List.getElem?_append_left (by omega)]
    rw [spTo, spTo, g, spTo_left D F E k (by omega)]
/-- the reference's way is the program's -/
theorem spTo_eq (R S : List Bool) (n : Nat) : ∀ k, k ≤ n → spTo (dryN R k) (dryN S n) (dryN R k).length = nwTo R S k
  | 0, _ => rfl
  | k + 1, h => by
    have ih := spTo_eq R S n k (by omega)
    have hs := has_dryN (R := S) (j := k + 1) (k := n) (by omega) h
    rw [nwTo]
    cases hr : R.getD (k + 1) false
    · have e : dryN R (k + 1) = dryN R k ++ [((k + 1 : Nat) : Int)] := by
        rw [dryN, hr]; rfl
      rw [e, List.length_append, List.length_singleton, spTo, spTo_left _ _ _ _ (Nat.le_refl _), ih]
      have g : (dryN R k ++ [((k + 1 : Nat) : Int)]).getD (dryN R k).length 0 = ((k + 1 : Nat) : Int) := by
        rw [List.getD_eq_getElem?_getD, List.getElem?_append_right (Nat.le_refl _), Nat.sub_self]; rfl
      rw [g, hs]
      cases S.getD (k + 1) false <;> simp
    · have e : dryN R (k + 1) = dryN R k := by rw [dryN, hr]; rfl
      rw [e, ih]
      simp
/-- the nodes that become wet with the valve k of an order -/
noncomputable def nwF (n : Int) (ps : List Pp) (l : List Vl) (src : Int) (a : List Int) (k : Nat) : List Int := nwTo (wetR ps (opL l (a.take k)) src) (wetR ps (opL l (a.take (k + 1))) src) n.toNat
noncomputable def nwL (n : Int) (ps : List Pp) (l : List Vl) (src : Int) (a : List Int) : Nat → List (List Int)
  | 0 => []
  | k + 1 => nwL n ps l src a k ++ [nwF n ps l src a k]
theorem nwL_length (n : Int) (ps : List Pp) (l : List Vl) (src : Int) (a : List Int) : ∀ k, (nwL n ps l src a k).length = k
  | 0 => rfl
  | k + 1 => by rw [nwL, List.length_append, List.length_singleton, nwL_length n ps l src a k]
theorem nwL_mem {n : Int} {ps : List Pp} {l : List Vl} {src : Int} {a : List Int} {x : List Int} : ∀ {k}, x ∈ nwL n ps l src a k → ∃ i, i < k ∧ x = nwF n ps l src a i
  | 0, h => by cases h
  | k + 1, h => by
    rw [nwL] at h
    rcases List.mem_append.1 h with h | h
    · obtain ⟨i, hi, e⟩ := nwL_mem h
      exact ⟨i, by omega, e⟩
    · rw [List.mem_singleton] at h
      exact ⟨k, by omega, h⟩
theorem nwL_small {n : Int} (hn : 1 ≤ n ∧ n ≤ 8) {ps : List Pp} {l : List Vl} {src : Int} {a : List Int} {k : Nat} {x : List Int} (h : x ∈ nwL n ps l src a k) : x.length ≤ 8 := by
  obtain ⟨i, _, rfl⟩ := nwL_mem h
  have := nwTo_length (wetR ps (opL l (a.take i)) src) (wetR ps (opL l (a.take (i + 1))) src) n.toNat
  unfold nwF
  omega
end Go.Proofs.Ytncblopbcnkinaa
/- Helpers of the laws on Network. -/
namespace Go.Proofs.Ytncblopbcnkinaa
open Go.Am
set_option linter.unusedVariables false
set_option linter.unusedSimpArgs false
set_option maxRecDepth 100000
set_option maxHeartbeats 2000000

end Go.Proofs.Ytncblopbcnkinaa
/- StillDry: the law. -/
namespace Go.Proofs.Ytncblopbcnkinaa
open Go.Am
set_option linter.unusedVariables false
set_option linter.unusedSimpArgs false
set_option maxRecDepth 100000
set_option maxHeartbeats 4000000

theorem dryO_small {n : Int} {ps : List Pp} (h : NetAt n ps) (l : List Vl) (src : Int) (ids : List Int) : (dryO n ps l src ids).length ≤ 1048577 := by
  have := dryO_length n ps l src ids
  have := h.f_n
  omega
end Go.Proofs.Ytncblopbcnkinaa
/- UsefulValves: both sides, and the law. -/
namespace Go.Proofs.Ytncblopbcnkinaa
open Go.Am
set_option linter.unusedVariables false
set_option linter.unusedSimpArgs false
set_option maxRecDepth 100000
set_option maxHeartbeats 4000000

theorem opL_nil (l : List Vl) : opL l [] = l := by
  refine List.ext_getElem (opL_length l []) fun i h1 h2 => ?_
  have := opL_getD l [] h2
  rw [List.getD_eq_getElem?_getD, List.getElem?_eq_getElem h1, List.getD_eq_getElem?_getD, List.getElem?_eq_getElem h2] at this
  simpa [opV, hasI] using this
theorem dryO_nil (n : Int) (ps : List Pp) (l : List Vl) (src : Int) : dryN (wetR ps l src) n.toNat = dryO n ps l src [] := by rw [dryO, opL_nil]
theorem iDryO_A (n : Int) (ps : List Pp) (cp : Nat) (l : List Vl) (hg : goodV n ps l = true) (c : Nat) (src : Int) (hsrc : 1 ≤ src ∧ src ≤ n) (ids : List Int) (H : Heap) (tp t : Nat) (hP : Sl ppE H tp ps) (hS : Sl vlE H t (opL l ids)) :
    AFunC Try.prog 27 [netV n tp ps.length cp, .slice (some ⟨t, 0, none⟩) l.length c, .int .i64 src] H (.tuple #[.slice (some ⟨H.length, 0, none⟩) (dryO n ps l src ids).length 0, .bool true]) (H ++ [some ⟨(dryO n ps l src ids).flatMap nmE, true, 3, 1⟩]) :=
  opL_length l ids ▸ iDryNodes_A n ps cp (opL l ids) (goodV_opL hg ids) c src hsrc H tp t hP hS
/-- the first k shut valves that are useful -/
def useTo (n : Int) (ps : List Pp) (l : List Vl) (src : Int) : Nat → List Int
  | 0 => []
  | k + 1 => if (dryO n ps l src [(shutL l).getD k 0]).length < (dryO n ps l src []).length then useTo n ps l src k ++ [(shutL l).getD k 0] else useTo n ps l src k
theorem useTo_length (n : Int) (ps : List Pp) (l : List Vl) (src : Int) : ∀ k, (useTo n ps l src k).length ≤ k
  | 0 => Nat.le_refl _
  | k + 1 => by have := useTo_length n ps l src k; rw [useTo]; split <;> simp <;> omega
def useL (n : Int) (ps : List Pp) (l : List Vl) (src : Int) : List Int := useTo n ps l src (shutL l).length
theorem iUseful_good (n : Int) (ps : List Pp) (cp : Nat) (l : List Vl) (c : Nat) (src : Int) (hq : askR n ps l src = true) (H : Heap) (tp t : Nat) (hP : Sl ppE H tp ps) (hS : Sl vlE H t l) :
    AFunC Try.prog 31 [netV n tp ps.length cp, .slice (some ⟨t, 0, none⟩) l.length c, .int .i64 src] H (.tuple #[.slice (some ⟨H.length, 0, none⟩) (useL n ps l src).length 0, .bool true]) (H ++ [some ⟨(useL n ps l src).flatMap nmE, true, 3, 1⟩]) := by
  refine AFunC.of_body Try.func31 (by kernel_rfl) rfl (by kernel_rfl) (by simp [Try.ntmps31]) ?_
  have htp := hP.lt
  have ht := hS.lt
  obtain ⟨hg, hN, hl, hsrc, hs6⟩ := askR_at hq
  have hpl := hN.f_len
  have hn := hN.f_n
  simp -dsimp -implicitDefEqProofs (disch := omega) [go_sem, -List.getD_eq_getElem?_getD, ite_yes, htp, ht]
  refine ACall.of (canReopen_A n ps (by omega) cp l (by omega) c src _ tp t hP.app hS.app) ?_
  simp -dsimp -implicitDefEqProofs (disch := omega) [go_sem, -List.getD_eq_getElem?_getD, ite_yes, hq, htp, ht]
  refine ACall.of (dryO_nil n ps l src ▸ iDryNodes_A n ps cp l hg c src hsrc _ tp t hP.app hS.app) ?_
  simp -dsimp -implicitDefEqProofs (disch := omega) [go_sem, -List.getD_eq_getElem?_getD, ite_yes, htp, ht]
  refine ACall.of (shutIds_A l (by omega) c _ t hS.app) ?_
  simp -dsimp -implicitDefEqProofs (disch := omega) [go_sem, -List.getD_eq_getElem?_getD, ite_yes, htp, ht]
  have hbl := dryO_length n ps l src []
  generalize hB : dryO n ps l src [] = B at *
  refine ALoop.intro (ι := Nat) (fun k => k ≤ (shutL l).length) (fun k => [(1, .slice (some ⟨t, 0, none⟩) l.length c), (2, .int .i64 src), (3, .pointer (some ⟨H.length, 0, none⟩)), (8, .slice (some ⟨H.length + 1, 0, none⟩) (useTo n ps l src k).length 0), (9, .slice (some ⟨H.length + 2, 0, none⟩) B.length 0), (29, .slice (some ⟨H.length + 3, 0, none⟩) (shutL l).length 0), (30, .int .i64 (shutL l).length), (31, .int .i64 k)])
    (fun k => H ++ [some ⟨[.int .i64 n, .slice (some ⟨tp, 0, none⟩) ps.length cp], true, 46, 1⟩, some ⟨(useTo n ps l src k).flatMap nmE, true, 3, 1⟩, some ⟨B.flatMap nmE, true, 3, 1⟩, some ⟨(shutL l).flatMap nmE, true, 3, 1⟩]) (fun k => (shutL l).length - k) 0 (by omega) ?_ ?_
  · refine weakS_mk [some 0, some 1, some 2, some 3] rfl ?_ (by simp -dsimp -implicitDefEqProofs (disch := omega) [go_sem, -List.getD_eq_getElem?_getD, ite_yes, htp, ht, useTo])
    simp -dsimp -implicitDefEqProofs (disch := omega) [go_sem, -List.getD_eq_getElem?_getD, ite_yes, useTo]
    exact ⟨wl_net htp, .inl ⟨rfl, rfl⟩, .inl ⟨rfl, nmE_flat _⟩, .inl ⟨rfl, nmE_flat _⟩⟩
  intro k hk
  have hul := useTo_length n ps l src k
  have hfl : ((useTo n ps l src k).flatMap nmE).length = (useTo n ps l src k).length := by rw [nmE_length]; omega
  by_cases hlt : k < (shutL l).length
  · have e : useTo n ps l src (k + 1) = if (dryO n ps l src [(shutL l).getD k 0]).length < (dryO n ps l src []).length then useTo n ps l src k ++ [(shutL l).getD k 0] else useTo n ps l src k := rfl
    rw [hB] at e
    have c1 := nm_cell1 (shutL l) hlt
    have hfs : ((shutL l).flatMap nmE).length = (shutL l).length := by rw [nmE_length]; omega
    generalize (shutL l).getD k 0 = id at *
    by_cases hc : (dryO n ps l src [id]).length < B.length
    · rw [if_pos hc] at e
      simp -dsimp -implicitDefEqProofs (disch := omega) [go_sem, -List.getD_eq_getElem?_getD, ite_yes, hlt, htp, ht, c1, hfs]
      refine ADraw.any H (by kernel_rfl) (by first | exact SubH.refl | exact SubH.app | exact SubH.both (by simp [subL])) ?_
      refine AAny.takes (fuel := 9) (by kernel_rfl) (by kernel_rfl) [1, 2, 5] (by kernel_rfl) (by kernel_rfl) ?_
      simp -dsimp -implicitDefEqProofs (disch := omega) [go_sem, -List.getD_eq_getElem?_getD, ite_yes, htp, ht, hc, hfl]
      refine AAny.two 8 0 3 (by kernel_rfl) (by kernel_rfl) (by kernel_rfl) ?_ ?_
      · simp -dsimp -implicitDefEqProofs (disch := omega) [go_sem, -List.getD_eq_getElem?_getD, ite_yes, htp, ht, hc, hfl]
        first | refine AAt.of (by first | exact SubH.refl | exact SubH.app | exact SubH.both (by simp [subL])) ?_ | (refine ⟨?_, AAt.of (by first | exact SubH.refl | exact SubH.app | exact SubH.both (by simp [subL])) ?_⟩; · omega)
        refine AAny.one 7 3 (by kernel_rfl) (by kernel_rfl) (by kernel_rfl) ?_
        simp -dsimp -implicitDefEqProofs (disch := omega) [go_sem, -List.getD_eq_getElem?_getD, ite_yes, htp, ht, hc, hfl]
        first | refine AAt.of (by first | exact SubH.refl | exact SubH.app | exact SubH.both (by simp [subL])) ?_ | (refine ⟨?_, AAt.of (by first | exact SubH.refl | exact SubH.app | exact SubH.both (by simp [subL])) ?_⟩; · omega)
        refine AAny.one 6 4 (by kernel_rfl) (by kernel_rfl) (by kernel_rfl) ?_
        simp -dsimp -implicitDefEqProofs (disch := omega) [go_sem, -List.getD_eq_getElem?_getD, ite_yes, htp, ht, hc, hfl]
        refine ACall.of (opened_A l (by omega) c [id] (by simp) 1 0 _ t (H.length + 4) hS.app (IdS.of (Sl.nth 4 rfl rfl))) ?_
        simp -dsimp -implicitDefEqProofs (disch := omega) [go_sem, -List.getD_eq_getElem?_getD, ite_yes, htp, ht, hc, hfl]
        first | refine AAt.of (by first | exact SubH.refl | exact SubH.app | exact SubH.both (by simp [subL])) ?_ | (refine ⟨?_, AAt.of (by first | exact SubH.refl | exact SubH.app | exact SubH.both (by simp [subL])) ?_⟩; · omega)
        refine AAny.one 5 6 (by kernel_rfl) (by kernel_rfl) (by kernel_rfl) ?_
        simp -dsimp -implicitDefEqProofs (disch := omega) [go_sem, -List.getD_eq_getElem?_getD, ite_yes, htp, ht, hc, hfl]
        refine ACall.of (iDryO_A n ps cp l hg 0 src hsrc [id] _ tp (H.length + 5) hP.app (Sl.nth 5 rfl rfl)) ?_
        simp -dsimp -implicitDefEqProofs (disch := omega) [go_sem, -List.getD_eq_getElem?_getD, ite_yes, htp, ht, hc, hfl]
        first | refine AAt.of (by first | exact SubH.refl | exact SubH.app | exact SubH.both (by simp [subL])) ?_ | (refine ⟨?_, AAt.of (by first | exact SubH.refl | exact SubH.app | exact SubH.both (by simp [subL])) ?_⟩; · omega)
        refine AAny.takes (fuel := 0) (by kernel_rfl) (by kernel_rfl) [7, 8, 9, 10, 11] (by kernel_rfl) (by kernel_rfl) ?_
        simp -dsimp -implicitDefEqProofs (disch := omega) [go_sem, -List.getD_eq_getElem?_getD, ite_yes, htp, ht, hc, hfl]
        refine AAny.done (by kernel_rfl) ?_
        simp -dsimp -implicitDefEqProofs (disch := omega) [go_sem, -List.getD_eq_getElem?_getD, ite_yes, htp, ht, hc, hfl]
        refine ⟨by omega, LoopEnd.of (k + 1) (by omega) (by omega) (weakS_mk [some 0, some 8, some 2, some 3] rfl ?_ (by simp -dsimp -implicitDefEqProofs (disch := omega) [go_sem, -List.getD_eq_getElem?_getD, ite_yes, htp, ht, e]))⟩
        simp -dsimp -implicitDefEqProofs (disch := omega) [go_sem, -List.getD_eq_getElem?_getD, ite_yes]
        exact ⟨wl_net htp, .inl ⟨by rw [e, List.flatMap_append]; rfl, by rw [show List.flatMap nmE (useTo n ps l src k) ++ [Value.int IntKind.i64 id] = List.flatMap nmE (useTo n ps l src (k + 1)) by rw [e, List.flatMap_append]; rfl]; exact nmE_flat _⟩, .inl ⟨rfl, nmE_flat _⟩, .inl ⟨rfl, nmE_flat _⟩⟩
      · simp -dsimp -implicitDefEqProofs (disch := omega) [go_sem, -List.getD_eq_getElem?_getD, ite_yes, htp, ht, hc, hfl]
        first | refine AAt.of (by first | exact SubH.refl | exact SubH.app | exact SubH.both (by simp [subL])) ?_ | (refine ⟨?_, AAt.of (by first | exact SubH.refl | exact SubH.app | exact SubH.both (by simp [subL])) ?_⟩; · omega)
        refine AAny.two 7 0 4 (by kernel_rfl) (by kernel_rfl) (by kernel_rfl) ?_ ?_
        · simp -dsimp -implicitDefEqProofs (disch := omega) [go_sem, -List.getD_eq_getElem?_getD, ite_yes, htp, ht, hc, hfl]
          first | refine AAt.of (by first | exact SubH.refl | exact SubH.app | exact SubH.both (by simp [subL])) ?_ | (refine ⟨?_, AAt.of (by first | exact SubH.refl | exact SubH.app | exact SubH.both (by simp [subL])) ?_⟩; · omega)
          refine AAny.one 6 4 (by kernel_rfl) (by kernel_rfl) (by kernel_rfl) ?_
          simp -dsimp -implicitDefEqProofs (disch := omega) [go_sem, -List.getD_eq_getElem?_getD, ite_yes, htp, ht, hc, hfl]
          refine ACall.of (opened_A l (by omega) c [id] (by simp) 1 0 _ t (H.length + 4) hS.app (IdS.of (Sl.nth 4 rfl rfl))) ?_
          simp -dsimp -implicitDefEqProofs (disch := omega) [go_sem, -List.getD_eq_getElem?_getD, ite_yes, htp, ht, hc, hfl]
          first | refine AAt.of (by first | exact SubH.refl | exact SubH.app | exact SubH.both (by simp [subL])) ?_ | (refine ⟨?_, AAt.of (by first | exact SubH.refl | exact SubH.app | exact SubH.both (by simp [subL])) ?_⟩; · omega)
          refine AAny.one 5 6 (by kernel_rfl) (by kernel_rfl) (by kernel_rfl) ?_
          simp -dsimp -implicitDefEqProofs (disch := omega) [go_sem, -List.getD_eq_getElem?_getD, ite_yes, htp, ht, hc, hfl]
          refine ACall.of (iDryO_A n ps cp l hg 0 src hsrc [id] _ tp (H.length + 5) hP.app (Sl.nth 5 rfl rfl)) ?_
          simp -dsimp -implicitDefEqProofs (disch := omega) [go_sem, -List.getD_eq_getElem?_getD, ite_yes, htp, ht, hc, hfl]
          first | refine AAt.of (by first | exact SubH.refl | exact SubH.app | exact SubH.both (by simp [subL])) ?_ | (refine ⟨?_, AAt.of (by first | exact SubH.refl | exact SubH.app | exact SubH.both (by simp [subL])) ?_⟩; · omega)
          refine AAny.takes (fuel := 0) (by kernel_rfl) (by kernel_rfl) [7, 8, 9, 10, 11] (by kernel_rfl) (by kernel_rfl) ?_
          simp -dsimp -implicitDefEqProofs (disch := omega) [go_sem, -List.getD_eq_getElem?_getD, ite_yes, htp, ht, hc, hfl]
          refine AAny.done (by kernel_rfl) ?_
          simp -dsimp -implicitDefEqProofs (disch := omega) [go_sem, -List.getD_eq_getElem?_getD, ite_yes, htp, ht, hc, hfl]
          refine ⟨by omega, LoopEnd.of (k + 1) (by omega) (by omega) (weakS_mk [some 0, some 8, some 2, some 3] rfl ?_ (by simp -dsimp -implicitDefEqProofs (disch := omega) [go_sem, -List.getD_eq_getElem?_getD, ite_yes, htp, ht, e]))⟩
          simp -dsimp -implicitDefEqProofs (disch := omega) [go_sem, -List.getD_eq_getElem?_getD, ite_yes]
          exact ⟨wl_net htp, .inl ⟨by rw [e, List.flatMap_append]; rfl, by rw [show List.flatMap nmE (useTo n ps l src k) ++ [Value.int IntKind.i64 id] = List.flatMap nmE (useTo n ps l src (k + 1)) by rw [e, List.flatMap_append]; rfl]; exact nmE_flat _⟩, .inl ⟨rfl, nmE_flat _⟩, .inl ⟨rfl, nmE_flat _⟩⟩
        · simp -dsimp -implicitDefEqProofs (disch := omega) [go_sem, -List.getD_eq_getElem?_getD, ite_yes, htp, ht, hc, hfl]
          refine ACall.of (opened_A l (by omega) c [id] (by simp) 1 0 _ t (H.length + 4) hS.app (IdS.of (Sl.nth 4 rfl rfl))) ?_
          simp -dsimp -implicitDefEqProofs (disch := omega) [go_sem, -List.getD_eq_getElem?_getD, ite_yes, htp, ht, hc, hfl]
          first | refine AAt.of (by first | exact SubH.refl | exact SubH.app | exact SubH.both (by simp [subL])) ?_ | (refine ⟨?_, AAt.of (by first | exact SubH.refl | exact SubH.app | exact SubH.both (by simp [subL])) ?_⟩; · omega)
          refine AAny.one 6 0 (by kernel_rfl) (by kernel_rfl) (by kernel_rfl) ?_
          simp -dsimp -implicitDefEqProofs (disch := omega) [go_sem, -List.getD_eq_getElem?_getD, ite_yes, htp, ht, hc, hfl]
          first | refine AAt.of (by first | exact SubH.refl | exact SubH.app | exact SubH.both (by simp [subL])) ?_ | (refine ⟨?_, AAt.of (by first | exact SubH.refl | exact SubH.app | exact SubH.both (by simp [subL])) ?_⟩; · omega)
          refine AAny.one 5 6 (by kernel_rfl) (by kernel_rfl) (by kernel_rfl) ?_
          simp -dsimp -implicitDefEqProofs (disch := omega) [go_sem, -List.getD_eq_getElem?_getD, ite_yes, htp, ht, hc, hfl]
          refine ACall.of (iDryO_A n ps cp l hg 0 src hsrc [id] _ tp (H.length + 5) hP.app (Sl.nth 5 rfl rfl)) ?_
          simp -dsimp -implicitDefEqProofs (disch := omega) [go_sem, -List.getD_eq_getElem?_getD, ite_yes, htp, ht, hc, hfl]
          first | refine AAt.of (by first | exact SubH.refl | exact SubH.app | exact SubH.both (by simp [subL])) ?_ | (refine ⟨?_, AAt.of (by first | exact SubH.refl | exact SubH.app | exact SubH.both (by simp [subL])) ?_⟩; · omega)
          refine AAny.takes (fuel := 0) (by kernel_rfl) (by kernel_rfl) [7, 8, 9, 10, 11] (by kernel_rfl) (by kernel_rfl) ?_
          simp -dsimp -implicitDefEqProofs (disch := omega) [go_sem, -List.getD_eq_getElem?_getD, ite_yes, htp, ht, hc, hfl]
          refine AAny.done (by kernel_rfl) ?_
          simp -dsimp -implicitDefEqProofs (disch := omega) [go_sem, -List.getD_eq_getElem?_getD, ite_yes, htp, ht, hc, hfl]
          refine ⟨by omega, LoopEnd.of (k + 1) (by omega) (by omega) (weakS_mk [some 0, some 8, some 2, some 3] rfl ?_ (by simp -dsimp -implicitDefEqProofs (disch := omega) [go_sem, -List.getD_eq_getElem?_getD, ite_yes, htp, ht, e]))⟩
          simp -dsimp -implicitDefEqProofs (disch := omega) [go_sem, -List.getD_eq_getElem?_getD, ite_yes]
          exact ⟨wl_net htp, .inl ⟨by rw [e, List.flatMap_append]; rfl, by rw [show List.flatMap nmE (useTo n ps l src k) ++ [Value.int IntKind.i64 id] = List.flatMap nmE (useTo n ps l src (k + 1)) by rw [e, List.flatMap_append]; rfl]; exact nmE_flat _⟩, .inl ⟨rfl, nmE_flat _⟩, .inl ⟨rfl, nmE_flat _⟩⟩
    · rw [if_neg hc] at e
      simp -dsimp -implicitDefEqProofs (disch := omega) [go_sem, -List.getD_eq_getElem?_getD, ite_yes, hlt, htp, ht, c1, hfs]
      refine ADraw.any H (by kernel_rfl) (by first | exact SubH.refl | exact SubH.app | exact SubH.both (by simp [subL])) ?_
      refine AAny.takes (fuel := 9) (by kernel_rfl) (by kernel_rfl) [1, 2, 5] (by kernel_rfl) (by kernel_rfl) ?_
      simp -dsimp -implicitDefEqProofs (disch := omega) [go_sem, -List.getD_eq_getElem?_getD, ite_yes, htp, ht, hc, hfl]
      refine AAny.two 8 0 3 (by kernel_rfl) (by kernel_rfl) (by kernel_rfl) ?_ ?_
      · simp -dsimp -implicitDefEqProofs (disch := omega) [go_sem, -List.getD_eq_getElem?_getD, ite_yes, htp, ht, hc, hfl]
        first | refine AAt.of (by first | exact SubH.refl | exact SubH.app | exact SubH.both (by simp [subL])) ?_ | (refine ⟨?_, AAt.of (by first | exact SubH.refl | exact SubH.app | exact SubH.both (by simp [subL])) ?_⟩; · omega)
        refine AAny.one 7 3 (by kernel_rfl) (by kernel_rfl) (by kernel_rfl) ?_
        simp -dsimp -implicitDefEqProofs (disch := omega) [go_sem, -List.getD_eq_getElem?_getD, ite_yes, htp, ht, hc, hfl]
        first | refine AAt.of (by first | exact SubH.refl | exact SubH.app | exact SubH.both (by simp [subL])) ?_ | (refine ⟨?_, AAt.of (by first | exact SubH.refl | exact SubH.app | exact SubH.both (by simp [subL])) ?_⟩; · omega)
        refine AAny.one 6 4 (by kernel_rfl) (by kernel_rfl) (by kernel_rfl) ?_
        simp -dsimp -implicitDefEqProofs (disch := omega) [go_sem, -List.getD_eq_getElem?_getD, ite_yes, htp, ht, hc, hfl]
        refine ACall.of (opened_A l (by omega) c [id] (by simp) 1 0 _ t (H.length + 4) hS.app (IdS.of (Sl.nth 4 rfl rfl))) ?_
        simp -dsimp -implicitDefEqProofs (disch := omega) [go_sem, -List.getD_eq_getElem?_getD, ite_yes, htp, ht, hc, hfl]
        first | refine AAt.of (by first | exact SubH.refl | exact SubH.app | exact SubH.both (by simp [subL])) ?_ | (refine ⟨?_, AAt.of (by first | exact SubH.refl | exact SubH.app | exact SubH.both (by simp [subL])) ?_⟩; · omega)
        refine AAny.one 5 6 (by kernel_rfl) (by kernel_rfl) (by kernel_rfl) ?_
        simp -dsimp -implicitDefEqProofs (disch := omega) [go_sem, -List.getD_eq_getElem?_getD, ite_yes, htp, ht, hc, hfl]
        refine ACall.of (iDryO_A n ps cp l hg 0 src hsrc [id] _ tp (H.length + 5) hP.app (Sl.nth 5 rfl rfl)) ?_
        simp -dsimp -implicitDefEqProofs (disch := omega) [go_sem, -List.getD_eq_getElem?_getD, ite_yes, htp, ht, hc, hfl]
        first | refine AAt.of (by first | exact SubH.refl | exact SubH.app | exact SubH.both (by simp [subL])) ?_ | (refine ⟨?_, AAt.of (by first | exact SubH.refl | exact SubH.app | exact SubH.both (by simp [subL])) ?_⟩; · omega)
        refine AAny.takes (fuel := 0) (by kernel_rfl) (by kernel_rfl) [7, 8, 9, 10, 11] (by kernel_rfl) (by kernel_rfl) ?_
        simp -dsimp -implicitDefEqProofs (disch := omega) [go_sem, -List.getD_eq_getElem?_getD, ite_yes, htp, ht, hc, hfl]
        refine AAny.done (by kernel_rfl) ?_
        simp -dsimp -implicitDefEqProofs (disch := omega) [go_sem, -List.getD_eq_getElem?_getD, ite_yes, htp, ht, hc, hfl]
        refine LoopEnd.of (k + 1) (by omega) (by omega) (weakS_mk [some 0, some 1, some 2, some 3] rfl ?_ (by simp -dsimp -implicitDefEqProofs (disch := omega) [go_sem, -List.getD_eq_getElem?_getD, ite_yes, htp, ht, e]))
        simp -dsimp -implicitDefEqProofs (disch := omega) [go_sem, -List.getD_eq_getElem?_getD, ite_yes]
        exact ⟨wl_net htp, .inl ⟨by rw [e], nmE_flat _⟩, .inl ⟨rfl, nmE_flat _⟩, .inl ⟨rfl, nmE_flat _⟩⟩
      · simp -dsimp -implicitDefEqProofs (disch := omega) [go_sem, -List.getD_eq_getElem?_getD, ite_yes, htp, ht, hc, hfl]
        first | refine AAt.of (by first | exact SubH.refl | exact SubH.app | exact SubH.both (by simp [subL])) ?_ | (refine ⟨?_, AAt.of (by first | exact SubH.refl | exact SubH.app | exact SubH.both (by simp [subL])) ?_⟩; · omega)
        refine AAny.two 7 0 4 (by kernel_rfl) (by kernel_rfl) (by kernel_rfl) ?_ ?_
        · simp -dsimp -implicitDefEqProofs (disch := omega) [go_sem, -List.getD_eq_getElem?_getD, ite_yes, htp, ht, hc, hfl]
          first | refine AAt.of (by first | exact SubH.refl | exact SubH.app | exact SubH.both (by simp [subL])) ?_ | (refine ⟨?_, AAt.of (by first | exact SubH.refl | exact SubH.app | exact SubH.both (by simp [subL])) ?_⟩; · omega)
          refine AAny.one 6 4 (by kernel_rfl) (by kernel_rfl) (by kernel_rfl) ?_
          simp -dsimp -implicitDefEqProofs (disch := omega) [go_sem, -List.getD_eq_getElem?_getD, ite_yes, htp, ht, hc, hfl]
          refine ACall.of (opened_A l (by omega) c [id] (by simp) 1 0 _ t (H.length + 4) hS.app (IdS.of (Sl.nth 4 rfl rfl))) ?_
          simp -dsimp -implicitDefEqProofs (disch := omega) [go_sem, -List.getD_eq_getElem?_getD, ite_yes, htp, ht, hc, hfl]
          first | refine AAt.of (by first | exact SubH.refl | exact SubH.app | exact SubH.both (by simp [subL])) ?_ | (refine ⟨?_, AAt.of (by first | exact SubH.refl | exact SubH.app | exact SubH.both (by simp [subL])) ?_⟩; · omega)
          refine AAny.one 5 6 (by kernel_rfl) (by kernel_rfl) (by kernel_rfl) ?_
          simp -dsimp -implicitDefEqProofs (disch := omega) [go_sem, -List.getD_eq_getElem?_getD, ite_yes, htp, ht, hc, hfl]
          refine ACall.of (iDryO_A n ps cp l hg 0 src hsrc [id] _ tp (H.length + 5) hP.app (Sl.nth 5 rfl rfl)) ?_
          simp -dsimp -implicitDefEqProofs (disch := omega) [go_sem, -List.getD_eq_getElem?_getD, ite_yes, htp, ht, hc, hfl]
          first | refine AAt.of (by first | exact SubH.refl | exact SubH.app | exact SubH.both (by simp [subL])) ?_ | (refine ⟨?_, AAt.of (by first | exact SubH.refl | exact SubH.app | exact SubH.both (by simp [subL])) ?_⟩; · omega)
          refine AAny.takes (fuel := 0) (by kernel_rfl) (by kernel_rfl) [7, 8, 9, 10, 11] (by kernel_rfl) (by kernel_rfl) ?_
          simp -dsimp -implicitDefEqProofs (disch := omega) [go_sem, -List.getD_eq_getElem?_getD, ite_yes, htp, ht, hc, hfl]
          refine AAny.done (by kernel_rfl) ?_
          simp -dsimp -implicitDefEqProofs (disch := omega) [go_sem, -List.getD_eq_getElem?_getD, ite_yes, htp, ht, hc, hfl]
          refine LoopEnd.of (k + 1) (by omega) (by omega) (weakS_mk [some 0, some 1, some 2, some 3] rfl ?_ (by simp -dsimp -implicitDefEqProofs (disch := omega) [go_sem, -List.getD_eq_getElem?_getD, ite_yes, htp, ht, e]))
          simp -dsimp -implicitDefEqProofs (disch := omega) [go_sem, -List.getD_eq_getElem?_getD, ite_yes]
          exact ⟨wl_net htp, .inl ⟨by rw [e], nmE_flat _⟩, .inl ⟨rfl, nmE_flat _⟩, .inl ⟨rfl, nmE_flat _⟩⟩
        · simp -dsimp -implicitDefEqProofs (disch := omega) [go_sem, -List.getD_eq_getElem?_getD, ite_yes, htp, ht, hc, hfl]
          refine ACall.of (opened_A l (by omega) c [id] (by simp) 1 0 _ t (H.length + 4) hS.app (IdS.of (Sl.nth 4 rfl rfl))) ?_
          simp -dsimp -implicitDefEqProofs (disch := omega) [go_sem, -List.getD_eq_getElem?_getD, ite_yes, htp, ht, hc, hfl]
          first | refine AAt.of (by first | exact SubH.refl | exact SubH.app | exact SubH.both (by simp [subL])) ?_ | (refine ⟨?_, AAt.of (by first | exact SubH.refl | exact SubH.app | exact SubH.both (by simp [subL])) ?_⟩; · omega)
          refine AAny.one 6 0 (by kernel_rfl) (by kernel_rfl) (by kernel_rfl) ?_
          simp -dsimp -implicitDefEqProofs (disch := omega) [go_sem, -List.getD_eq_getElem?_getD, ite_yes, htp, ht, hc, hfl]
          first | refine AAt.of (by first | exact SubH.refl | exact SubH.app | exact SubH.both (by simp [subL])) ?_ | (refine ⟨?_, AAt.of (by first | exact SubH.refl | exact SubH.app | exact SubH.both (by simp [subL])) ?_⟩; · omega)
          refine AAny.one 5 6 (by kernel_rfl) (by kernel_rfl) (by kernel_rfl) ?_
          simp -dsimp -implicitDefEqProofs (disch := omega) [go_sem, -List.getD_eq_getElem?_getD, ite_yes, htp, ht, hc, hfl]
          refine ACall.of (iDryO_A n ps cp l hg 0 src hsrc [id] _ tp (H.length + 5) hP.app (Sl.nth 5 rfl rfl)) ?_
          simp -dsimp -implicitDefEqProofs (disch := omega) [go_sem, -List.getD_eq_getElem?_getD, ite_yes, htp, ht, hc, hfl]
          first | refine AAt.of (by first | exact SubH.refl | exact SubH.app | exact SubH.both (by simp [subL])) ?_ | (refine ⟨?_, AAt.of (by first | exact SubH.refl | exact SubH.app | exact SubH.both (by simp [subL])) ?_⟩; · omega)
          refine AAny.takes (fuel := 0) (by kernel_rfl) (by kernel_rfl) [7, 8, 9, 10, 11] (by kernel_rfl) (by kernel_rfl) ?_
          simp -dsimp -implicitDefEqProofs (disch := omega) [go_sem, -List.getD_eq_getElem?_getD, ite_yes, htp, ht, hc, hfl]
          refine AAny.done (by kernel_rfl) ?_
          simp -dsimp -implicitDefEqProofs (disch := omega) [go_sem, -List.getD_eq_getElem?_getD, ite_yes, htp, ht, hc, hfl]
          refine LoopEnd.of (k + 1) (by omega) (by omega) (weakS_mk [some 0, some 1, some 2, some 3] rfl ?_ (by simp -dsimp -implicitDefEqProofs (disch := omega) [go_sem, -List.getD_eq_getElem?_getD, ite_yes, htp, ht, e]))
          simp -dsimp -implicitDefEqProofs (disch := omega) [go_sem, -List.getD_eq_getElem?_getD, ite_yes]
          exact ⟨wl_net htp, .inl ⟨by rw [e], nmE_flat _⟩, .inl ⟨rfl, nmE_flat _⟩, .inl ⟨rfl, nmE_flat _⟩⟩
  · obtain rfl : k = (shutL l).length := by omega
    simp -dsimp -implicitDefEqProofs (disch := omega) [go_sem, -List.getD_eq_getElem?_getD, ite_yes, hlt]
    refine fin_list [some 1] rfl ?_ (by simp -dsimp -implicitDefEqProofs (disch := omega) [go_sem, -List.getD_eq_getElem?_getD, ite_yes, useL])
    simp -dsimp -implicitDefEqProofs (disch := omega) [go_sem, -List.getD_eq_getElem?_getD, ite_yes, useL]
    exact .inl ⟨rfl, nmE_flat _⟩
theorem iUseful_bad (n : Int) (ps : List Pp) (hps : ps.length ≤ 1048577) (cp : Nat) (l : List Vl) (hl : l.length ≤ 1048577) (c : Nat) (src : Int) (hq : askR n ps l src = false) (H : Heap) (tp t : Nat) (hP : Sl ppE H tp ps) (hS : Sl vlE H t l) :
    AFunC Try.prog 31 [netV n tp ps.length cp, .slice (some ⟨t, 0, none⟩) l.length c, .int .i64 src] H (.tuple #[.slice none 0 0, .bool false]) H := by
  refine AFunC.of_body Try.func31 (by kernel_rfl) rfl (by kernel_rfl) (by simp [Try.ntmps31]) ?_
  have htp := hP.lt
  have ht := hS.lt
  simp -dsimp -implicitDefEqProofs (disch := omega) [go_sem, -List.getD_eq_getElem?_getD, ite_yes, htp, ht]
  refine ACall.of (canReopen_A n ps hps cp l hl c src _ tp t hP.app hS.app) ?_
  simp -dsimp -implicitDefEqProofs (disch := omega) [go_sem, -List.getD_eq_getElem?_getD, ite_yes, hq, htp, ht]
  exact fin_flat rfl rfl
theorem sUseful_bad (n : Int) (ps : List Pp) (hps : ps.length ≤ 1048577) (cp : Nat) (l : List Vl) (hl : l.length ≤ 1048577) (c : Nat) (src : Int) (hq : askR n ps l src = false) (H : Heap) (tp t : Nat) (hP : Sl ppE H tp ps) (hS : Sl vlE H t l) :
    AFunC Try.prog 32 [netV n tp ps.length cp, .slice (some ⟨t, 0, none⟩) l.length c, .int .i64 src] H (.tuple #[.slice (some ⟨H.length, 0, none⟩) 0 0, .bool false]) (H ++ [some ⟨[], true, 3, 1⟩]) := by
  refine AFunC.of_body Try.func32 (by kernel_rfl) rfl (by kernel_rfl) (by simp [Try.ntmps32]) ?_
  have htp := hP.lt
  have ht := hS.lt
  simp -dsimp -implicitDefEqProofs (disch := omega) [go_sem, -List.getD_eq_getElem?_getD, ite_yes, htp, ht]
  refine ACall.of (l18Asked_A n ps hps cp l hl c src _ tp t hP.app hS.app) ?_
  simp -dsimp -implicitDefEqProofs (disch := omega) [go_sem, -List.getD_eq_getElem?_getD, ite_yes, hq, htp, ht]
  refine fin_list [some 1] rfl ?_ (by simp -dsimp -implicitDefEqProofs (disch := omega) [go_sem, -List.getD_eq_getElem?_getD, ite_yes])
  simp -dsimp -implicitDefEqProofs (disch := omega) [go_sem, -List.getD_eq_getElem?_getD, ite_yes]
  exact .inl ⟨rfl, rfl⟩
theorem sUseful_good (n : Int) (ps : List Pp) (cp : Nat) (l : List Vl) (c : Nat) (src : Int) (hq : askR n ps l src = true) (H : Heap) (tp t : Nat) (hP : Sl ppE H tp ps) (hS : Sl vlE H t l) :
    AFunC Try.prog 32 [netV n tp ps.length cp, .slice (some ⟨t, 0, none⟩) l.length c, .int .i64 src] H (.tuple #[.slice (some ⟨H.length, 0, none⟩) (useL n ps l src).length 0, .bool true]) (H ++ [some ⟨(useL n ps l src).flatMap nmE, true, 3, 1⟩]) := by
  refine AFunC.of_body Try.func32 (by kernel_rfl) rfl (by kernel_rfl) (by simp [Try.ntmps32]) ?_
  have htp := hP.lt
  have ht := hS.lt
  obtain ⟨hg, hN, hl, hsrc, hs6⟩ := askR_at hq
  have hpl := hN.f_len
  have hn := hN.f_n
  simp -dsimp -implicitDefEqProofs (disch := omega) [go_sem, -List.getD_eq_getElem?_getD, ite_yes, htp, ht]
  refine ACall.of (l18Asked_A n ps (by omega) cp l (by omega) c src _ tp t hP.app hS.app) ?_
  simp -dsimp -implicitDefEqProofs (disch := omega) [go_sem, -List.getD_eq_getElem?_getD, ite_yes, hq, htp, ht]
  refine ACall.of (l18Shut_A l (by omega) c _ t hS.app) ?_
  simp -dsimp -implicitDefEqProofs (disch := omega) [go_sem, -List.getD_eq_getElem?_getD, ite_yes, htp, ht]
  have hbl := dryO_length n ps l src []
  generalize hB : dryO n ps l src [] = B at *
  refine ALoop.intro (ι := Nat) (fun k => k ≤ (shutL l).length) (fun k => [(1, .slice (some ⟨t, 0, none⟩) l.length c), (2, .int .i64 src), (3, .pointer (some ⟨H.length, 0, none⟩)), (8, .slice (some ⟨H.length + 1, 0, none⟩) (useTo n ps l src k).length 0), (9, .slice (some ⟨H.length + 2, 0, none⟩) (shutL l).length 0), (10, .int .i64 k)])
    (fun k => H ++ [some ⟨[.int .i64 n, .slice (some ⟨tp, 0, none⟩) ps.length cp], true, 46, 1⟩, some ⟨(useTo n ps l src k).flatMap nmE, true, 3, 1⟩, some ⟨(shutL l).flatMap nmE, true, 3, 1⟩]) (fun k => (shutL l).length - k) 0 (by omega) ?_ ?_
  · refine weakS_mk [some 0, some 1, some 2] rfl ?_ (by simp -dsimp -implicitDefEqProofs (disch := omega) [go_sem, -List.getD_eq_getElem?_getD, ite_yes, htp, ht, useTo])
    simp -dsimp -implicitDefEqProofs (disch := omega) [go_sem, -List.getD_eq_getElem?_getD, ite_yes, useTo]
    exact ⟨wl_net htp, .inl ⟨rfl, rfl⟩, .inl ⟨rfl, nmE_flat _⟩⟩
  intro k hk
  have hul := useTo_length n ps l src k
  have hfl : ((useTo n ps l src k).flatMap nmE).length = (useTo n ps l src k).length := by rw [nmE_length]; omega
  by_cases hlt : k < (shutL l).length
  · have e : useTo n ps l src (k + 1) = if (dryO n ps l src [(shutL l).getD k 0]).length < (dryO n ps l src []).length then useTo n ps l src k ++ [(shutL l).getD k 0] else useTo n ps l src k := rfl
    rw [hB] at e
    have c1 := nm_cell1 (shutL l) hlt
    have hfs : ((shutL l).flatMap nmE).length = (shutL l).length := by rw [nmE_length]; omega
    have hids : ∀ L : Heap, IdS (H ++ some ⟨[.int .i64 n, .slice (some ⟨tp, 0, none⟩) ps.length cp], true, 46, 1⟩ :: some ⟨(useTo n ps l src k).flatMap nmE, true, 3, 1⟩ :: some ⟨(shutL l).flatMap nmE, true, 3, 1⟩ :: L) (H.length + 2) k [(shutL l).getD k 0] := by
      intro L
      refine ⟨by simp, fun j hj => ?_⟩
      obtain rfl : j = 0 := by simpa using hj
      have hk1 : k + 1 ≤ (shutL l).length := by omega
      simp [aCells_atj, Heap.get_cons, aC1, hfs, hk1, c1]
    generalize (shutL l).getD k 0 = id at *
    have hdl := dryO_length n ps l src [id]
    by_cases hc : (dryO n ps l src [id]).length < B.length
    · rw [if_pos hc] at e
      simp -dsimp -implicitDefEqProofs (disch := omega) [go_sem, -List.getD_eq_getElem?_getD, ite_yes, hlt, htp, ht, c1, hfs]
      refine ADraw.mid ([(42, .bool true), (1, .slice (some ⟨t, 0, none⟩) l.length c), (2, .int .i64 src), (3, .pointer (some ⟨H.length, 0, none⟩)), (8, .slice (some ⟨H.length + 1, 0, none⟩) (useTo n ps l src k).length 0), (9, .slice (some ⟨H.length + 2, 0, none⟩) (shutL l).length 0), (10, .int .i64 k)]) (H ++ [some ⟨[.int .i64 n, .slice (some ⟨tp, 0, none⟩) ps.length cp], true, 46, 1⟩, some ⟨(useTo n ps l src k).flatMap nmE, true, 3, 1⟩, some ⟨(shutL l).flatMap nmE, true, 3, 1⟩]) ?_ ?_
      · skip
        refine ADraw.any (H ++ [none, none, some ⟨(shutL l).flatMap nmE, true, 3, 1⟩]) (by kernel_rfl) (by first | exact SubH.refl | exact SubH.app | exact SubH.both (by simp [subL])) ?_
        refine AAny.takes (fuel := 8) (by kernel_rfl) (by kernel_rfl) [1, 2, 3, 4, 5, 6, 7, 11, 12] (by kernel_rfl) (by kernel_rfl) ?_
        simp -dsimp -implicitDefEqProofs (disch := omega) [go_sem, -List.getD_eq_getElem?_getD, ite_yes, htp, ht, hc, hfl, hlt]
        refine AAny.three 7 0 10 13 (by kernel_rfl) (by kernel_rfl) (by kernel_rfl) ?_ ?_ ?_
        · simp -dsimp -implicitDefEqProofs (disch := omega) [go_sem, -List.getD_eq_getElem?_getD, ite_yes, htp, ht, hc, hfl, hlt]
          first | refine AAt.of (by first | exact SubH.refl | exact SubH.app | exact SubH.both (by simp [subL])) ?_ | (refine ⟨?_, AAt.of (by first | exact SubH.refl | exact SubH.app | exact SubH.both (by simp [subL])) ?_⟩; · omega)
          refine AAny.three 6 8 10 13 (by kernel_rfl) (by kernel_rfl) (by kernel_rfl) ?_ ?_ ?_
          · simp -dsimp -implicitDefEqProofs (disch := omega) [go_sem, -List.getD_eq_getElem?_getD, ite_yes, htp, ht, hc, hfl, hlt]
            refine ACall.of (l18Dry_A n ps hN cp l (by omega) c src hsrc [id] (by simp) 1 k _ tp t (H.length + 2) hP.app hS.app (hids _)) ?_
            simp -dsimp -implicitDefEqProofs (disch := omega) [go_sem, -List.getD_eq_getElem?_getD, ite_yes, htp, ht, hc, hfl, hlt]
            first | refine AAt.of (by first | exact SubH.refl | exact SubH.app | exact SubH.both (by simp [subL])) ?_ | (refine ⟨?_, AAt.of (by first | exact SubH.refl | exact SubH.app | exact SubH.both (by simp [subL])) ?_⟩; · omega)
            refine AAny.takes (fuel := 5) (by kernel_rfl) (by kernel_rfl) [9] (by kernel_rfl) (by kernel_rfl) ?_
            simp -dsimp -implicitDefEqProofs (disch := omega) [go_sem, -List.getD_eq_getElem?_getD, ite_yes, htp, ht, hc, hfl, hlt]
            refine AAny.two 4 10 13 (by kernel_rfl) (by kernel_rfl) (by kernel_rfl) ?_ ?_
            · simp -dsimp -implicitDefEqProofs (disch := omega) [go_sem, -List.getD_eq_getElem?_getD, ite_yes, htp, ht, hc, hfl, hlt]
              first | refine AAt.of (by first | exact SubH.refl | exact SubH.app | exact SubH.both (by simp [subL])) ?_ | (refine ⟨?_, AAt.of (by first | exact SubH.refl | exact SubH.app | exact SubH.both (by simp [subL])) ?_⟩; · omega)
              refine AAny.one 3 13 (by kernel_rfl) (by kernel_rfl) (by kernel_rfl) ?_
              simp -dsimp -implicitDefEqProofs (disch := omega) [go_sem, -List.getD_eq_getElem?_getD, ite_yes, htp, ht, hc, hfl, hlt]
              first | refine AAt.of (by first | exact SubH.refl | exact SubH.app | exact SubH.both (by simp [subL])) ?_ | (refine ⟨?_, AAt.of (by first | exact SubH.refl | exact SubH.app | exact SubH.both (by simp [subL])) ?_⟩; · omega)
              refine AAny.one 2 14 (by kernel_rfl) (by kernel_rfl) (by kernel_rfl) ?_
              simp -dsimp -implicitDefEqProofs (disch := omega) [go_sem, -List.getD_eq_getElem?_getD, ite_yes, htp, ht, hc, hfl, hlt]
              first | refine ACall.of (hB ▸ l18Dry_A n ps hN cp l (by omega) c src hsrc [] (by simp) 0 0 _ tp t (H.length + 4) hP.app hS.app (IdS.of (Sl.nth 4 rfl rfl))) ?_ | refine ACall.of (hB ▸ l18Dry_A n ps hN cp l (by omega) c src hsrc [] (by simp) 0 0 _ tp t (H.length + 3) hP.app hS.app (IdS.of (Sl.nth 3 rfl rfl))) ?_
              simp -dsimp -implicitDefEqProofs (disch := omega) [go_sem, -List.getD_eq_getElem?_getD, ite_yes, htp, ht, hc, hfl, hlt]
              first | refine AAt.of (by first | exact SubH.refl | exact SubH.app | exact SubH.both (by simp [subL])) ?_ | (refine ⟨?_, AAt.of (by first | exact SubH.refl | exact SubH.app | exact SubH.both (by simp [subL])) ?_⟩; · omega)
              refine AAny.takes (fuel := 0) (by kernel_rfl) (by kernel_rfl) [15, 16] (by kernel_rfl) (by kernel_rfl) ?_
              simp -dsimp -implicitDefEqProofs (disch := omega) [go_sem, -List.getD_eq_getElem?_getD, ite_yes, htp, ht, hc, hfl, hlt]
              refine AAny.done (by kernel_rfl) ?_
              simp -dsimp -implicitDefEqProofs (disch := omega) [go_sem, -List.getD_eq_getElem?_getD, ite_yes, htp, ht, hc, hfl, hlt]
              exact ⟨weakS_mk [some 0, some 1, some 2] rfl (by simp -dsimp -implicitDefEqProofs (disch := omega) [go_sem, -List.getD_eq_getElem?_getD, ite_yes]; exact ⟨wl_net htp, .inl ⟨rfl, nmE_flat _⟩, .inl ⟨rfl, nmE_flat _⟩⟩) (by simp -dsimp -implicitDefEqProofs (disch := omega) [go_sem, -List.getD_eq_getElem?_getD, ite_yes, htp, ht])⟩
            · simp -dsimp -implicitDefEqProofs (disch := omega) [go_sem, -List.getD_eq_getElem?_getD, ite_yes, htp, ht, hc, hfl, hlt]
              first | refine AAt.of (by first | exact SubH.refl | exact SubH.app | exact SubH.both (by simp [subL])) ?_ | (refine ⟨?_, AAt.of (by first | exact SubH.refl | exact SubH.app | exact SubH.both (by simp [subL])) ?_⟩; · omega)
              refine AAny.one 3 10 (by kernel_rfl) (by kernel_rfl) (by kernel_rfl) ?_
              simp -dsimp -implicitDefEqProofs (disch := omega) [go_sem, -List.getD_eq_getElem?_getD, ite_yes, htp, ht, hc, hfl, hlt]
              first | refine AAt.of (by first | exact SubH.refl | exact SubH.app | exact SubH.both (by simp [subL])) ?_ | (refine ⟨?_, AAt.of (by first | exact SubH.refl | exact SubH.app | exact SubH.both (by simp [subL])) ?_⟩; · omega)
              refine AAny.one 2 14 (by kernel_rfl) (by kernel_rfl) (by kernel_rfl) ?_
              simp -dsimp -implicitDefEqProofs (disch := omega) [go_sem, -List.getD_eq_getElem?_getD, ite_yes, htp, ht, hc, hfl, hlt]
              first | refine ACall.of (hB ▸ l18Dry_A n ps hN cp l (by omega) c src hsrc [] (by simp) 0 0 _ tp t (H.length + 4) hP.app hS.app (IdS.of (Sl.nth 4 rfl rfl))) ?_ | refine ACall.of (hB ▸ l18Dry_A n ps hN cp l (by omega) c src hsrc [] (by simp) 0 0 _ tp t (H.length + 3) hP.app hS.app (IdS.of (Sl.nth 3 rfl rfl))) ?_
              simp -dsimp -implicitDefEqProofs (disch := omega) [go_sem, -List.getD_eq_getElem?_getD, ite_yes, htp, ht, hc, hfl, hlt]
              first | refine AAt.of (by first | exact SubH.refl | exact SubH.app | exact SubH.both (by simp [subL])) ?_ | (refine ⟨?_, AAt.of (by first | exact SubH.refl | exact SubH.app | exact SubH.both (by simp [subL])) ?_⟩; · omega)
              refine AAny.takes (fuel := 0) (by kernel_rfl) (by kernel_rfl) [15, 16] (by kernel_rfl) (by kernel_rfl) ?_
              simp -dsimp -implicitDefEqProofs (disch := omega) [go_sem, -List.getD_eq_getElem?_getD, ite_yes, htp, ht, hc, hfl, hlt]
              refine AAny.done (by kernel_rfl) ?_
              simp -dsimp -implicitDefEqProofs (disch := omega) [go_sem, -List.getD_eq_getElem?_getD, ite_yes, htp, ht, hc, hfl, hlt]
              exact ⟨weakS_mk [some 0, some 1, some 2] rfl (by simp -dsimp -implicitDefEqProofs (disch := omega) [go_sem, -List.getD_eq_getElem?_getD, ite_yes]; exact ⟨wl_net htp, .inl ⟨rfl, nmE_flat _⟩, .inl ⟨rfl, nmE_flat _⟩⟩) (by simp -dsimp -implicitDefEqProofs (disch := omega) [go_sem, -List.getD_eq_getElem?_getD, ite_yes, htp, ht])⟩
          · simp -dsimp -implicitDefEqProofs (disch := omega) [go_sem, -List.getD_eq_getElem?_getD, ite_yes, htp, ht, hc, hfl, hlt]
            first | refine AAt.of (by first | exact SubH.refl | exact SubH.app | exact SubH.both (by simp [subL])) ?_ | (refine ⟨?_, AAt.of (by first | exact SubH.refl | exact SubH.app | exact SubH.both (by simp [subL])) ?_⟩; · omega)
            refine AAny.two 5 8 13 (by kernel_rfl) (by kernel_rfl) (by kernel_rfl) ?_ ?_
            · simp -dsimp -implicitDefEqProofs (disch := omega) [go_sem, -List.getD_eq_getElem?_getD, ite_yes, htp, ht, hc, hfl, hlt]
              refine ACall.of (l18Dry_A n ps hN cp l (by omega) c src hsrc [id] (by simp) 1 k _ tp t (H.length + 2) hP.app hS.app (hids _)) ?_
              simp -dsimp -implicitDefEqProofs (disch := omega) [go_sem, -List.getD_eq_getElem?_getD, ite_yes, htp, ht, hc, hfl, hlt]
              first | refine AAt.of (by first | exact SubH.refl | exact SubH.app | exact SubH.both (by simp [subL])) ?_ | (refine ⟨?_, AAt.of (by first | exact SubH.refl | exact SubH.app | exact SubH.both (by simp [subL])) ?_⟩; · omega)
              refine AAny.takes (fuel := 4) (by kernel_rfl) (by kernel_rfl) [9] (by kernel_rfl) (by kernel_rfl) ?_
              simp -dsimp -implicitDefEqProofs (disch := omega) [go_sem, -List.getD_eq_getElem?_getD, ite_yes, htp, ht, hc, hfl, hlt]
              refine AAny.one 3 13 (by kernel_rfl) (by kernel_rfl) (by kernel_rfl) ?_
              simp -dsimp -implicitDefEqProofs (disch := omega) [go_sem, -List.getD_eq_getElem?_getD, ite_yes, htp, ht, hc, hfl, hlt]
              first | refine AAt.of (by first | exact SubH.refl | exact SubH.app | exact SubH.both (by simp [subL])) ?_ | (refine ⟨?_, AAt.of (by first | exact SubH.refl | exact SubH.app | exact SubH.both (by simp [subL])) ?_⟩; · omega)
              refine AAny.one 2 14 (by kernel_rfl) (by kernel_rfl) (by kernel_rfl) ?_
              simp -dsimp -implicitDefEqProofs (disch := omega) [go_sem, -List.getD_eq_getElem?_getD, ite_yes, htp, ht, hc, hfl, hlt]
              first | refine ACall.of (hB ▸ l18Dry_A n ps hN cp l (by omega) c src hsrc [] (by simp) 0 0 _ tp t (H.length + 4) hP.app hS.app (IdS.of (Sl.nth 4 rfl rfl))) ?_ | refine ACall.of (hB ▸ l18Dry_A n ps hN cp l (by omega) c src hsrc [] (by simp) 0 0 _ tp t (H.length + 3) hP.app hS.app (IdS.of (Sl.nth 3 rfl rfl))) ?_
              simp -dsimp -implicitDefEqProofs (disch := omega) [go_sem, -List.getD_eq_getElem?_getD, ite_yes, htp, ht, hc, hfl, hlt]
              first | refine AAt.of (by first | exact SubH.refl | exact SubH.app | exact SubH.both (by simp [subL])) ?_ | (refine ⟨?_, AAt.of (by first | exact SubH.refl | exact SubH.app | exact SubH.both (by simp [subL])) ?_⟩; · omega)
              refine AAny.takes (fuel := 0) (by kernel_rfl) (by kernel_rfl) [15, 16] (by kernel_rfl) (by kernel_rfl) ?_
              simp -dsimp -implicitDefEqProofs (disch := omega) [go_sem, -List.getD_eq_getElem?_getD, ite_yes, htp, ht, hc, hfl, hlt]
              refine AAny.done (by kernel_rfl) ?_
              simp -dsimp -implicitDefEqProofs (disch := omega) [go_sem, -List.getD_eq_getElem?_getD, ite_yes, htp, ht, hc, hfl, hlt]
              exact ⟨weakS_mk [some 0, some 1, some 2] rfl (by simp -dsimp -implicitDefEqProofs (disch := omega) [go_sem, -List.getD_eq_getElem?_getD, ite_yes]; exact ⟨wl_net htp, .inl ⟨rfl, nmE_flat _⟩, .inl ⟨rfl, nmE_flat _⟩⟩) (by simp -dsimp -implicitDefEqProofs (disch := omega) [go_sem, -List.getD_eq_getElem?_getD, ite_yes, htp, ht])⟩
            · simp -dsimp -implicitDefEqProofs (disch := omega) [go_sem, -List.getD_eq_getElem?_getD, ite_yes, htp, ht, hc, hfl, hlt]
              first | refine AAt.of (by first | exact SubH.refl | exact SubH.app | exact SubH.both (by simp [subL])) ?_ | (refine ⟨?_, AAt.of (by first | exact SubH.refl | exact SubH.app | exact SubH.both (by simp [subL])) ?_⟩; · omega)
              refine AAny.one 4 8 (by kernel_rfl) (by kernel_rfl) (by kernel_rfl) ?_
              simp -dsimp -implicitDefEqProofs (disch := omega) [go_sem, -List.getD_eq_getElem?_getD, ite_yes, htp, ht, hc, hfl, hlt]
              refine ACall.of (l18Dry_A n ps hN cp l (by omega) c src hsrc [id] (by simp) 1 k _ tp t (H.length + 2) hP.app hS.app (hids _)) ?_
              simp -dsimp -implicitDefEqProofs (disch := omega) [go_sem, -List.getD_eq_getElem?_getD, ite_yes, htp, ht, hc, hfl, hlt]
              first | refine AAt.of (by first | exact SubH.refl | exact SubH.app | exact SubH.both (by simp [subL])) ?_ | (refine ⟨?_, AAt.of (by first | exact SubH.refl | exact SubH.app | exact SubH.both (by simp [subL])) ?_⟩; · omega)
              refine AAny.takes (fuel := 3) (by kernel_rfl) (by kernel_rfl) [9] (by kernel_rfl) (by kernel_rfl) ?_
              simp -dsimp -implicitDefEqProofs (disch := omega) [go_sem, -List.getD_eq_getElem?_getD, ite_yes, htp, ht, hc, hfl, hlt]
              refine AAny.one 2 14 (by kernel_rfl) (by kernel_rfl) (by kernel_rfl) ?_
              simp -dsimp -implicitDefEqProofs (disch := omega) [go_sem, -List.getD_eq_getElem?_getD, ite_yes, htp, ht, hc, hfl, hlt]
              first | refine ACall.of (hB ▸ l18Dry_A n ps hN cp l (by omega) c src hsrc [] (by simp) 0 0 _ tp t (H.length + 4) hP.app hS.app (IdS.of (Sl.nth 4 rfl rfl))) ?_ | refine ACall.of (hB ▸ l18Dry_A n ps hN cp l (by omega) c src hsrc [] (by simp) 0 0 _ tp t (H.length + 3) hP.app hS.app (IdS.of (Sl.nth 3 rfl rfl))) ?_
              simp -dsimp -implicitDefEqProofs (disch := omega) [go_sem, -List.getD_eq_getElem?_getD, ite_yes, htp, ht, hc, hfl, hlt]
              first | refine AAt.of (by first | exact SubH.refl | exact SubH.app | exact SubH.both (by simp [subL])) ?_ | (refine ⟨?_, AAt.of (by first | exact SubH.refl | exact SubH.app | exact SubH.both (by simp [subL])) ?_⟩; · omega)
              refine AAny.takes (fuel := 0) (by kernel_rfl) (by kernel_rfl) [15, 16] (by kernel_rfl) (by kernel_rfl) ?_
              simp -dsimp -implicitDefEqProofs (disch := omega) [go_sem, -List.getD_eq_getElem?_getD, ite_yes, htp, ht, hc, hfl, hlt]
              refine AAny.done (by kernel_rfl) ?_
              simp -dsimp -implicitDefEqProofs (disch := omega) [go_sem, -List.getD_eq_getElem?_getD, ite_yes, htp, ht, hc, hfl, hlt]
              exact ⟨weakS_mk [some 0, some 1, some 2] rfl (by simp -dsimp -implicitDefEqProofs (disch := omega) [go_sem, -List.getD_eq_getElem?_getD, ite_yes]; exact ⟨wl_net htp, .inl ⟨rfl, nmE_flat _⟩, .inl ⟨rfl, nmE_flat _⟩⟩) (by simp -dsimp -implicitDefEqProofs (disch := omega) [go_sem, -List.getD_eq_getElem?_getD, ite_yes, htp, ht])⟩
          · simp -dsimp -implicitDefEqProofs (disch := omega) [go_sem, -List.getD_eq_getElem?_getD, ite_yes, htp, ht, hc, hfl, hlt]
            first | refine AAt.of (by first | exact SubH.refl | exact SubH.app | exact SubH.both (by simp [subL])) ?_ | (refine ⟨?_, AAt.of (by first | exact SubH.refl | exact SubH.app | exact SubH.both (by simp [subL])) ?_⟩; · omega)
            refine AAny.two 5 8 10 (by kernel_rfl) (by kernel_rfl) (by kernel_rfl) ?_ ?_
            · simp -dsimp -implicitDefEqProofs (disch := omega) [go_sem, -List.getD_eq_getElem?_getD, ite_yes, htp, ht, hc, hfl, hlt]
              refine ACall.of (l18Dry_A n ps hN cp l (by omega) c src hsrc [id] (by simp) 1 k _ tp t (H.length + 2) hP.app hS.app (hids _)) ?_
              simp -dsimp -implicitDefEqProofs (disch := omega) [go_sem, -List.getD_eq_getElem?_getD, ite_yes, htp, ht, hc, hfl, hlt]
              first | refine AAt.of (by first | exact SubH.refl | exact SubH.app | exact SubH.both (by simp [subL])) ?_ | (refine ⟨?_, AAt.of (by first | exact SubH.refl | exact SubH.app | exact SubH.both (by simp [subL])) ?_⟩; · omega)
              refine AAny.takes (fuel := 4) (by kernel_rfl) (by kernel_rfl) [9] (by kernel_rfl) (by kernel_rfl) ?_
              simp -dsimp -implicitDefEqProofs (disch := omega) [go_sem, -List.getD_eq_getElem?_getD, ite_yes, htp, ht, hc, hfl, hlt]
              refine AAny.one 3 10 (by kernel_rfl) (by kernel_rfl) (by kernel_rfl) ?_
              simp -dsimp -implicitDefEqProofs (disch := omega) [go_sem, -List.getD_eq_getElem?_getD, ite_yes, htp, ht, hc, hfl, hlt]
              first | refine AAt.of (by first | exact SubH.refl | exact SubH.app | exact SubH.both (by simp [subL])) ?_ | (refine ⟨?_, AAt.of (by first | exact SubH.refl | exact SubH.app | exact SubH.both (by simp [subL])) ?_⟩; · omega)
              refine AAny.one 2 14 (by kernel_rfl) (by kernel_rfl) (by kernel_rfl) ?_
              simp -dsimp -implicitDefEqProofs (disch := omega) [go_sem, -List.getD_eq_getElem?_getD, ite_yes, htp, ht, hc, hfl, hlt]
              first | refine ACall.of (hB ▸ l18Dry_A n ps hN cp l (by omega) c src hsrc [] (by simp) 0 0 _ tp t (H.length + 4) hP.app hS.app (IdS.of (Sl.nth 4 rfl rfl))) ?_ | refine ACall.of (hB ▸ l18Dry_A n ps hN cp l (by omega) c src hsrc [] (by simp) 0 0 _ tp t (H.length + 3) hP.app hS.app (IdS.of (Sl.nth 3 rfl rfl))) ?_
              simp -dsimp -implicitDefEqProofs (disch := omega) [go_sem, -List.getD_eq_getElem?_getD, ite_yes, htp, ht, hc, hfl, hlt]
              first | refine AAt.of (by first | exact SubH.refl | exact SubH.app | exact SubH.both (by simp [subL])) ?_ | (refine ⟨?_, AAt.of (by first | exact SubH.refl | exact SubH.app | exact SubH.both (by simp [subL])) ?_⟩; · omega)
              refine AAny.takes (fuel := 0) (by kernel_rfl) (by kernel_rfl) [15, 16] (by kernel_rfl) (by kernel_rfl) ?_
              simp -dsimp -implicitDefEqProofs (disch := omega) [go_sem, -List.getD_eq_getElem?_getD, ite_yes, htp, ht, hc, hfl, hlt]
              refine AAny.done (by kernel_rfl) ?_
              simp -dsimp -implicitDefEqProofs (disch := omega) [go_sem, -List.getD_eq_getElem?_getD, ite_yes, htp, ht, hc, hfl, hlt]
              exact ⟨weakS_mk [some 0, some 1, some 2] rfl (by simp -dsimp -implicitDefEqProofs (disch := omega) [go_sem, -List.getD_eq_getElem?_getD, ite_yes]; exact ⟨wl_net htp, .inl ⟨rfl, nmE_flat _⟩, .inl ⟨rfl, nmE_flat _⟩⟩) (by simp -dsimp -implicitDefEqProofs (disch := omega) [go_sem, -List.getD_eq_getElem?_getD, ite_yes, htp, ht])⟩
            · simp -dsimp -implicitDefEqProofs (disch := omega) [go_sem, -List.getD_eq_getElem?_getD, ite_yes, htp, ht, hc, hfl, hlt]
              first | refine AAt.of (by first | exact SubH.refl | exact SubH.app | exact SubH.both (by simp [subL])) ?_ | (refine ⟨?_, AAt.of (by first | exact SubH.refl | exact SubH.app | exact SubH.both (by simp [subL])) ?_⟩; · omega)
              refine AAny.one 4 8 (by kernel_rfl) (by kernel_rfl) (by kernel_rfl) ?_
              simp -dsimp -implicitDefEqProofs (disch := omega) [go_sem, -List.getD_eq_getElem?_getD, ite_yes, htp, ht, hc, hfl, hlt]
              refine ACall.of (l18Dry_A n ps hN cp l (by omega) c src hsrc [id] (by simp) 1 k _ tp t (H.length + 2) hP.app hS.app (hids _)) ?_
              simp -dsimp -implicitDefEqProofs (disch := omega) [go_sem, -List.getD_eq_getElem?_getD, ite_yes, htp, ht, hc, hfl, hlt]
              first | refine AAt.of (by first | exact SubH.refl | exact SubH.app | exact SubH.both (by simp [subL])) ?_ | (refine ⟨?_, AAt.of (by first | exact SubH.refl | exact SubH.app | exact SubH.both (by simp [subL])) ?_⟩; · omega)
              refine AAny.takes (fuel := 3) (by kernel_rfl) (by kernel_rfl) [9] (by kernel_rfl) (by kernel_rfl) ?_
              simp -dsimp -implicitDefEqProofs (disch := omega) [go_sem, -List.getD_eq_getElem?_getD, ite_yes, htp, ht, hc, hfl, hlt]
              refine AAny.one 2 14 (by kernel_rfl) (by kernel_rfl) (by kernel_rfl) ?_
              simp -dsimp -implicitDefEqProofs (disch := omega) [go_sem, -List.getD_eq_getElem?_getD, ite_yes, htp, ht, hc, hfl, hlt]
              first | refine ACall.of (hB ▸ l18Dry_A n ps hN cp l (by omega) c src hsrc [] (by simp) 0 0 _ tp t (H.length + 4) hP.app hS.app (IdS.of (Sl.nth 4 rfl rfl))) ?_ | refine ACall.of (hB ▸ l18Dry_A n ps hN cp l (by omega) c src hsrc [] (by simp) 0 0 _ tp t (H.length + 3) hP.app hS.app (IdS.of (Sl.nth 3 rfl rfl))) ?_
              simp -dsimp -implicitDefEqProofs (disch := omega) [go_sem, -List.getD_eq_getElem?_getD, ite_yes, htp, ht, hc, hfl, hlt]
              first | refine AAt.of (by first | exact SubH.refl | exact SubH.app | exact SubH.both (by simp [subL])) ?_ | (refine ⟨?_, AAt.of (by first | exact SubH.refl | exact SubH.app | exact SubH.both (by simp [subL])) ?_⟩; · omega)
              refine AAny.takes (fuel := 0) (by kernel_rfl) (by kernel_rfl) [15, 16] (by kernel_rfl) (by kernel_rfl) ?_
              simp -dsimp -implicitDefEqProofs (disch := omega) [go_sem, -List.getD_eq_getElem?_getD, ite_yes, htp, ht, hc, hfl, hlt]
              refine AAny.done (by kernel_rfl) ?_
              simp -dsimp -implicitDefEqProofs (disch := omega) [go_sem, -List.getD_eq_getElem?_getD, ite_yes, htp, ht, hc, hfl, hlt]
              exact ⟨weakS_mk [some 0, some 1, some 2] rfl (by simp -dsimp -implicitDefEqProofs (disch := omega) [go_sem, -List.getD_eq_getElem?_getD, ite_yes]; exact ⟨wl_net htp, .inl ⟨rfl, nmE_flat _⟩, .inl ⟨rfl, nmE_flat _⟩⟩) (by simp -dsimp -implicitDefEqProofs (disch := omega) [go_sem, -List.getD_eq_getElem?_getD, ite_yes, htp, ht])⟩
        · simp -dsimp -implicitDefEqProofs (disch := omega) [go_sem, -List.getD_eq_getElem?_getD, ite_yes, htp, ht, hc, hfl, hlt]
          first | refine AAt.of (by first | exact SubH.refl | exact SubH.app | exact SubH.both (by simp [subL])) ?_ | (refine ⟨?_, AAt.of (by first | exact SubH.refl | exact SubH.app | exact SubH.both (by simp [subL])) ?_⟩; · omega)
          refine AAny.two 6 0 13 (by kernel_rfl) (by kernel_rfl) (by kernel_rfl) ?_ ?_
          · simp -dsimp -implicitDefEqProofs (disch := omega) [go_sem, -List.getD_eq_getElem?_getD, ite_yes, htp, ht, hc, hfl, hlt]
            first | refine AAt.of (by first | exact SubH.refl | exact SubH.app | exact SubH.both (by simp [subL])) ?_ | (refine ⟨?_, AAt.of (by first | exact SubH.refl | exact SubH.app | exact SubH.both (by simp [subL])) ?_⟩; · omega)
            refine AAny.two 5 8 13 (by kernel_rfl) (by kernel_rfl) (by kernel_rfl) ?_ ?_
            · simp -dsimp -implicitDefEqProofs (disch := omega) [go_sem, -List.getD_eq_getElem?_getD, ite_yes, htp, ht, hc, hfl, hlt]
              refine ACall.of (l18Dry_A n ps hN cp l (by omega) c src hsrc [id] (by simp) 1 k _ tp t (H.length + 2) hP.app hS.app (hids _)) ?_
              simp -dsimp -implicitDefEqProofs (disch := omega) [go_sem, -List.getD_eq_getElem?_getD, ite_yes, htp, ht, hc, hfl, hlt]
              first | refine AAt.of (by first | exact SubH.refl | exact SubH.app | exact SubH.both (by simp [subL])) ?_ | (refine ⟨?_, AAt.of (by first | exact SubH.refl | exact SubH.app | exact SubH.both (by simp [subL])) ?_⟩; · omega)
              refine AAny.takes (fuel := 4) (by kernel_rfl) (by kernel_rfl) [9] (by kernel_rfl) (by kernel_rfl) ?_
              simp -dsimp -implicitDefEqProofs (disch := omega) [go_sem, -List.getD_eq_getElem?_getD, ite_yes, htp, ht, hc, hfl, hlt]
              refine AAny.one 3 13 (by kernel_rfl) (by kernel_rfl) (by kernel_rfl) ?_
              simp -dsimp -implicitDefEqProofs (disch := omega) [go_sem, -List.getD_eq_getElem?_getD, ite_yes, htp, ht, hc, hfl, hlt]
              first | refine AAt.of (by first | exact SubH.refl | exact SubH.app | exact SubH.both (by simp [subL])) ?_ | (refine ⟨?_, AAt.of (by first | exact SubH.refl | exact SubH.app | exact SubH.both (by simp [subL])) ?_⟩; · omega)
              refine AAny.one 2 14 (by kernel_rfl) (by kernel_rfl) (by kernel_rfl) ?_
              simp -dsimp -implicitDefEqProofs (disch := omega) [go_sem, -List.getD_eq_getElem?_getD, ite_yes, htp, ht, hc, hfl, hlt]
              first | refine ACall.of (hB ▸ l18Dry_A n ps hN cp l (by omega) c src hsrc [] (by simp) 0 0 _ tp t (H.length + 4) hP.app hS.app (IdS.of (Sl.nth 4 rfl rfl))) ?_ | refine ACall.of (hB ▸ l18Dry_A n ps hN cp l (by omega) c src hsrc [] (by simp) 0 0 _ tp t (H.length + 3) hP.app hS.app (IdS.of (Sl.nth 3 rfl rfl))) ?_
              simp -dsimp -implicitDefEqProofs (disch := omega) [go_sem, -List.getD_eq_getElem?_getD, ite_yes, htp, ht, hc, hfl, hlt]
              first | refine AAt.of (by first | exact SubH.refl | exact SubH.app | exact SubH.both (by simp [subL])) ?_ | (refine ⟨?_, AAt.of (by first | exact SubH.refl | exact SubH.app | exact SubH.both (by simp [subL])) ?_⟩; · omega)
              refine AAny.takes (fuel := 0) (by kernel_rfl) (by kernel_rfl) [15, 16] (by kernel_rfl) (by kernel_rfl) ?_
              simp -dsimp -implicitDefEqProofs (disch := omega) [go_sem, -List.getD_eq_getElem?_getD, ite_yes, htp, ht, hc, hfl, hlt]
              refine AAny.done (by kernel_rfl) ?_
              simp -dsimp -implicitDefEqProofs (disch := omega) [go_sem, -List.getD_eq_getElem?_getD, ite_yes, htp, ht, hc, hfl, hlt]
              exact ⟨weakS_mk [some 0, some 1, some 2] rfl (by simp -dsimp -implicitDefEqProofs (disch := omega) [go_sem, -List.getD_eq_getElem?_getD, ite_yes]; exact ⟨wl_net htp, .inl ⟨rfl, nmE_flat _⟩, .inl ⟨rfl, nmE_flat _⟩⟩) (by simp -dsimp -implicitDefEqProofs (disch := omega) [go_sem, -List.getD_eq_getElem?_getD, ite_yes, htp, ht])⟩
            · simp -dsimp -implicitDefEqProofs (disch := omega) [go_sem, -List.getD_eq_getElem?_getD, ite_yes, htp, ht, hc, hfl, hlt]
              first | refine AAt.of (by first | exact SubH.refl | exact SubH.app | exact SubH.both (by simp [subL])) ?_ | (refine ⟨?_, AAt.of (by first | exact SubH.refl | exact SubH.app | exact SubH.both (by simp [subL])) ?_⟩; · omega)
              refine AAny.one 4 8 (by kernel_rfl) (by kernel_rfl) (by kernel_rfl) ?_
              simp -dsimp -implicitDefEqProofs (disch := omega) [go_sem, -List.getD_eq_getElem?_getD, ite_yes, htp, ht, hc, hfl, hlt]
              refine ACall.of (l18Dry_A n ps hN cp l (by omega) c src hsrc [id] (by simp) 1 k _ tp t (H.length + 2) hP.app hS.app (hids _)) ?_
              simp -dsimp -implicitDefEqProofs (disch := omega) [go_sem, -List.getD_eq_getElem?_getD, ite_yes, htp, ht, hc, hfl, hlt]
              first | refine AAt.of (by first | exact SubH.refl | exact SubH.app | exact SubH.both (by simp [subL])) ?_ | (refine ⟨?_, AAt.of (by first | exact SubH.refl | exact SubH.app | exact SubH.both (by simp [subL])) ?_⟩; · omega)
              refine AAny.takes (fuel := 3) (by kernel_rfl) (by kernel_rfl) [9] (by kernel_rfl) (by kernel_rfl) ?_
              simp -dsimp -implicitDefEqProofs (disch := omega) [go_sem, -List.getD_eq_getElem?_getD, ite_yes, htp, ht, hc, hfl, hlt]
              refine AAny.one 2 14 (by kernel_rfl) (by kernel_rfl) (by kernel_rfl) ?_
              simp -dsimp -implicitDefEqProofs (disch := omega) [go_sem, -List.getD_eq_getElem?_getD, ite_yes, htp, ht, hc, hfl, hlt]
              first | refine ACall.of (hB ▸ l18Dry_A n ps hN cp l (by omega) c src hsrc [] (by simp) 0 0 _ tp t (H.length + 4) hP.app hS.app (IdS.of (Sl.nth 4 rfl rfl))) ?_ | refine ACall.of (hB ▸ l18Dry_A n ps hN cp l (by omega) c src hsrc [] (by simp) 0 0 _ tp t (H.length + 3) hP.app hS.app (IdS.of (Sl.nth 3 rfl rfl))) ?_
              simp -dsimp -implicitDefEqProofs (disch := omega) [go_sem, -List.getD_eq_getElem?_getD, ite_yes, htp, ht, hc, hfl, hlt]
              first | refine AAt.of (by first | exact SubH.refl | exact SubH.app | exact SubH.both (by simp [subL])) ?_ | (refine ⟨?_, AAt.of (by first | exact SubH.refl | exact SubH.app | exact SubH.both (by simp [subL])) ?_⟩; · omega)
              refine AAny.takes (fuel := 0) (by kernel_rfl) (by kernel_rfl) [15, 16] (by kernel_rfl) (by kernel_rfl) ?_
              simp -dsimp -implicitDefEqProofs (disch := omega) [go_sem, -List.getD_eq_getElem?_getD, ite_yes, htp, ht, hc, hfl, hlt]
              refine AAny.done (by kernel_rfl) ?_
              simp -dsimp -implicitDefEqProofs (disch := omega) [go_sem, -List.getD_eq_getElem?_getD, ite_yes, htp, ht, hc, hfl, hlt]
              exact ⟨weakS_mk [some 0, some 1, some 2] rfl (by simp -dsimp -implicitDefEqProofs (disch := omega) [go_sem, -List.getD_eq_getElem?_getD, ite_yes]; exact ⟨wl_net htp, .inl ⟨rfl, nmE_flat _⟩, .inl ⟨rfl, nmE_flat _⟩⟩) (by simp -dsimp -implicitDefEqProofs (disch := omega) [go_sem, -List.getD_eq_getElem?_getD, ite_yes, htp, ht])⟩
          · simp -dsimp -implicitDefEqProofs (disch := omega) [go_sem, -List.getD_eq_getElem?_getD, ite_yes, htp, ht, hc, hfl, hlt]
            first | refine AAt.of (by first | exact SubH.refl | exact SubH.app | exact SubH.both (by simp [subL])) ?_ | (refine ⟨?_, AAt.of (by first | exact SubH.refl | exact SubH.app | exact SubH.both (by simp [subL])) ?_⟩; · omega)
            refine AAny.one 5 0 (by kernel_rfl) (by kernel_rfl) (by kernel_rfl) ?_
            simp -dsimp -implicitDefEqProofs (disch := omega) [go_sem, -List.getD_eq_getElem?_getD, ite_yes, htp, ht, hc, hfl, hlt]
            first | refine AAt.of (by first | exact SubH.refl | exact SubH.app | exact SubH.both (by simp [subL])) ?_ | (refine ⟨?_, AAt.of (by first | exact SubH.refl | exact SubH.app | exact SubH.both (by simp [subL])) ?_⟩; · omega)
            refine AAny.one 4 8 (by kernel_rfl) (by kernel_rfl) (by kernel_rfl) ?_
            simp -dsimp -implicitDefEqProofs (disch := omega) [go_sem, -List.getD_eq_getElem?_getD, ite_yes, htp, ht, hc, hfl, hlt]
            refine ACall.of (l18Dry_A n ps hN cp l (by omega) c src hsrc [id] (by simp) 1 k _ tp t (H.length + 2) hP.app hS.app (hids _)) ?_
            simp -dsimp -implicitDefEqProofs (disch := omega) [go_sem, -List.getD_eq_getElem?_getD, ite_yes, htp, ht, hc, hfl, hlt]
            first | refine AAt.of (by first | exact SubH.refl | exact SubH.app | exact SubH.both (by simp [subL])) ?_ | (refine ⟨?_, AAt.of (by first | exact SubH.refl | exact SubH.app | exact SubH.both (by simp [subL])) ?_⟩; · omega)
            refine AAny.takes (fuel := 3) (by kernel_rfl) (by kernel_rfl) [9] (by kernel_rfl) (by kernel_rfl) ?_
            simp -dsimp -implicitDefEqProofs (disch := omega) [go_sem, -List.getD_eq_getElem?_getD, ite_yes, htp, ht, hc, hfl, hlt]
            refine AAny.one 2 14 (by kernel_rfl) (by kernel_rfl) (by kernel_rfl) ?_
            simp -dsimp -implicitDefEqProofs (disch := omega) [go_sem, -List.getD_eq_getElem?_getD, ite_yes, htp, ht, hc, hfl, hlt]
            first | refine ACall.of (hB ▸ l18Dry_A n ps hN cp l (by omega) c src hsrc [] (by simp) 0 0 _ tp t (H.length + 4) hP.app hS.app (IdS.of (Sl.nth 4 rfl rfl))) ?_ | refine ACall.of (hB ▸ l18Dry_A n ps hN cp l (by omega) c src hsrc [] (by simp) 0 0 _ tp t (H.length + 3) hP.app hS.app (IdS.of (Sl.nth 3 rfl rfl))) ?_
            simp -dsimp -implicitDefEqProofs (disch := omega) [go_sem, -List.getD_eq_getElem?_getD, ite_yes, htp, ht, hc, hfl, hlt]
            first | refine AAt.of (by first | exact SubH.refl | exact SubH.app | exact SubH.both (by simp [subL])) ?_ | (refine ⟨?_, AAt.of (by first | exact SubH.refl | exact SubH.app | exact SubH.both (by simp [subL])) ?_⟩; · omega)
            refine AAny.takes (fuel := 0) (by kernel_rfl) (by kernel_rfl) [15, 16] (by kernel_rfl) (by kernel_rfl) ?_
            simp -dsimp -implicitDefEqProofs (disch := omega) [go_sem, -List.getD_eq_getElem?_getD, ite_yes, htp, ht, hc, hfl, hlt]
            refine AAny.done (by kernel_rfl) ?_
            simp -dsimp -implicitDefEqProofs (disch := omega) [go_sem, -List.getD_eq_getElem?_getD, ite_yes, htp, ht, hc, hfl, hlt]
            exact ⟨weakS_mk [some 0, some 1, some 2] rfl (by simp -dsimp -implicitDefEqProofs (disch := omega) [go_sem, -List.getD_eq_getElem?_getD, ite_yes]; exact ⟨wl_net htp, .inl ⟨rfl, nmE_flat _⟩, .inl ⟨rfl, nmE_flat _⟩⟩) (by simp -dsimp -implicitDefEqProofs (disch := omega) [go_sem, -List.getD_eq_getElem?_getD, ite_yes, htp, ht])⟩
        · simp -dsimp -implicitDefEqProofs (disch := omega) [go_sem, -List.getD_eq_getElem?_getD, ite_yes, htp, ht, hc, hfl, hlt]
          first | refine AAt.of (by first | exact SubH.refl | exact SubH.app | exact SubH.both (by simp [subL])) ?_ | (refine ⟨?_, AAt.of (by first | exact SubH.refl | exact SubH.app | exact SubH.both (by simp [subL])) ?_⟩; · omega)
          refine AAny.two 6 0 10 (by kernel_rfl) (by kernel_rfl) (by kernel_rfl) ?_ ?_
          · simp -dsimp -implicitDefEqProofs (disch := omega) [go_sem, -List.getD_eq_getElem?_getD, ite_yes, htp, ht, hc, hfl, hlt]
            first | refine AAt.of (by first | exact SubH.refl | exact SubH.app | exact SubH.both (by simp [subL])) ?_ | (refine ⟨?_, AAt.of (by first | exact SubH.refl | exact SubH.app | exact SubH.both (by simp [subL])) ?_⟩; · omega)
            refine AAny.two 5 8 10 (by kernel_rfl) (by kernel_rfl) (by kernel_rfl) ?_ ?_
            · simp -dsimp -implicitDefEqProofs (disch := omega) [go_sem, -List.getD_eq_getElem?_getD, ite_yes, htp, ht, hc, hfl, hlt]
              refine ACall.of (l18Dry_A n ps hN cp l (by omega) c src hsrc [id] (by simp) 1 k _ tp t (H.length + 2) hP.app hS.app (hids _)) ?_
              simp -dsimp -implicitDefEqProofs (disch := omega) [go_sem, -List.getD_eq_getElem?_getD, ite_yes, htp, ht, hc, hfl, hlt]
              first | refine AAt.of (by first | exact SubH.refl | exact SubH.app | exact SubH.both (by simp [subL])) ?_ | (refine ⟨?_, AAt.of (by first | exact SubH.refl | exact SubH.app | exact SubH.both (by simp [subL])) ?_⟩; · omega)
              refine AAny.takes (fuel := 4) (by kernel_rfl) (by kernel_rfl) [9] (by kernel_rfl) (by kernel_rfl) ?_
              simp -dsimp -implicitDefEqProofs (disch := omega) [go_sem, -List.getD_eq_getElem?_getD, ite_yes, htp, ht, hc, hfl, hlt]
              refine AAny.one 3 10 (by kernel_rfl) (by kernel_rfl) (by kernel_rfl) ?_
              simp -dsimp -implicitDefEqProofs (disch := omega) [go_sem, -List.getD_eq_getElem?_getD, ite_yes, htp, ht, hc, hfl, hlt]
              first | refine AAt.of (by first | exact SubH.refl | exact SubH.app | exact SubH.both (by simp [subL])) ?_ | (refine ⟨?_, AAt.of (by first | exact SubH.refl | exact SubH.app | exact SubH.both (by simp [subL])) ?_⟩; · omega)
              refine AAny.one 2 14 (by kernel_rfl) (by kernel_rfl) (by kernel_rfl) ?_
              simp -dsimp -implicitDefEqProofs (disch := omega) [go_sem, -List.getD_eq_getElem?_getD, ite_yes, htp, ht, hc, hfl, hlt]
              first | refine ACall.of (hB ▸ l18Dry_A n ps hN cp l (by omega) c src hsrc [] (by simp) 0 0 _ tp t (H.length + 4) hP.app hS.app (IdS.of (Sl.nth 4 rfl rfl))) ?_ | refine ACall.of (hB ▸ l18Dry_A n ps hN cp l (by omega) c src hsrc [] (by simp) 0 0 _ tp t (H.length + 3) hP.app hS.app (IdS.of (Sl.nth 3 rfl rfl))) ?_
              simp -dsimp -implicitDefEqProofs (disch := omega) [go_sem, -List.getD_eq_getElem?_getD, ite_yes, htp, ht, hc, hfl, hlt]
              first | refine AAt.of (by first | exact SubH.refl | exact SubH.app | exact SubH.both (by simp [subL])) ?_ | (refine ⟨?_, AAt.of (by first | exact SubH.refl | exact SubH.app | exact SubH.both (by simp [subL])) ?_⟩; · omega)
              refine AAny.takes (fuel := 0) (by kernel_rfl) (by kernel_rfl) [15, 16] (by kernel_rfl) (by kernel_rfl) ?_
              simp -dsimp -implicitDefEqProofs (disch := omega) [go_sem, -List.getD_eq_getElem?_getD, ite_yes, htp, ht, hc, hfl, hlt]
              refine AAny.done (by kernel_rfl) ?_
              simp -dsimp -implicitDefEqProofs (disch := omega) [go_sem, -List.getD_eq_getElem?_getD, ite_yes, htp, ht, hc, hfl, hlt]
              exact ⟨weakS_mk [some 0, some 1, some 2] rfl (by simp -dsimp -implicitDefEqProofs (disch := omega) [go_sem, -List.getD_eq_getElem?_getD, ite_yes]; exact ⟨wl_net htp, .inl ⟨rfl, nmE_flat _⟩, .inl ⟨rfl, nmE_flat _⟩⟩) (by simp -dsimp -implicitDefEqProofs (disch := omega) [go_sem, -List.getD_eq_getElem?_getD, ite_yes, htp, ht])⟩
            · simp -dsimp -implicitDefEqProofs (disch := omega) [go_sem, -List.getD_eq_getElem?_getD, ite_yes, htp, ht, hc, hfl, hlt]
              first | refine AAt.of (by first | exact SubH.refl | exact SubH.app | exact SubH.both (by simp [subL])) ?_ | (refine ⟨?_, AAt.of (by first | exact SubH.refl | exact SubH.app | exact SubH.both (by simp [subL])) ?_⟩; · omega)
              refine AAny.one 4 8 (by kernel_rfl) (by kernel_rfl) (by kernel_rfl) ?_
              simp -dsimp -implicitDefEqProofs (disch := omega) [go_sem, -List.getD_eq_getElem?_getD, ite_yes, htp, ht, hc, hfl, hlt]
              refine ACall.of (l18Dry_A n ps hN cp l (by omega) c src hsrc [id] (by simp) 1 k _ tp t (H.length + 2) hP.app hS.app (hids _)) ?_
              simp -dsimp -implicitDefEqProofs (disch := omega) [go_sem, -List.getD_eq_getElem?_getD, ite_yes, htp, ht, hc, hfl, hlt]
              first | refine AAt.of (by first | exact SubH.refl | exact SubH.app | exact SubH.both (by simp [subL])) ?_ | (refine ⟨?_, AAt.of (by first | exact SubH.refl | exact SubH.app | exact SubH.both (by simp [subL])) ?_⟩; · omega)
              refine AAny.takes (fuel := 3) (by kernel_rfl) (by kernel_rfl) [9] (by kernel_rfl) (by kernel_rfl) ?_
              simp -dsimp -implicitDefEqProofs (disch := omega) [go_sem, -List.getD_eq_getElem?_getD, ite_yes, htp, ht, hc, hfl, hlt]
              refine AAny.one 2 14 (by kernel_rfl) (by kernel_rfl) (by kernel_rfl) ?_
              simp -dsimp -implicitDefEqProofs (disch := omega) [go_sem, -List.getD_eq_getElem?_getD, ite_yes, htp, ht, hc, hfl, hlt]
              first | refine ACall.of (hB ▸ l18Dry_A n ps hN cp l (by omega) c src hsrc [] (by simp) 0 0 _ tp t (H.length + 4) hP.app hS.app (IdS.of (Sl.nth 4 rfl rfl))) ?_ | refine ACall.of (hB ▸ l18Dry_A n ps hN cp l (by omega) c src hsrc [] (by simp) 0 0 _ tp t (H.length + 3) hP.app hS.app (IdS.of (Sl.nth 3 rfl rfl))) ?_
              simp -dsimp -implicitDefEqProofs (disch := omega) [go_sem, -List.getD_eq_getElem?_getD, ite_yes, htp, ht, hc, hfl, hlt]
              first | refine AAt.of (by first | exact SubH.refl | exact SubH.app | exact SubH.both (by simp [subL])) ?_ | (refine ⟨?_, AAt.of (by first | exact SubH.refl | exact SubH.app | exact SubH.both (by simp [subL])) ?_⟩; · omega)
              refine AAny.takes (fuel := 0) (by kernel_rfl) (by kernel_rfl) [15, 16] (by kernel_rfl) (by kernel_rfl) ?_
              simp -dsimp -implicitDefEqProofs (disch := omega) [go_sem, -List.getD_eq_getElem?_getD, ite_yes, htp, ht, hc, hfl, hlt]
              refine AAny.done (by kernel_rfl) ?_
              simp -dsimp -implicitDefEqProofs (disch := omega) [go_sem, -List.getD_eq_getElem?_getD, ite_yes, htp, ht, hc, hfl, hlt]
              exact ⟨weakS_mk [some 0, some 1, some 2] rfl (by simp -dsimp -implicitDefEqProofs (disch := omega) [go_sem, -List.getD_eq_getElem?_getD, ite_yes]; exact ⟨wl_net htp, .inl ⟨rfl, nmE_flat _⟩, .inl ⟨rfl, nmE_flat _⟩⟩) (by simp -dsimp -implicitDefEqProofs (disch := omega) [go_sem, -List.getD_eq_getElem?_getD, ite_yes, htp, ht])⟩
          · simp -dsimp -implicitDefEqProofs (disch := omega) [go_sem, -List.getD_eq_getElem?_getD, ite_yes, htp, ht, hc, hfl, hlt]
            first | refine AAt.of (by first | exact SubH.refl | exact SubH.app | exact SubH.both (by simp [subL])) ?_ | (refine ⟨?_, AAt.of (by first | exact SubH.refl | exact SubH.app | exact SubH.both (by simp [subL])) ?_⟩; · omega)
            refine AAny.one 5 0 (by kernel_rfl) (by kernel_rfl) (by kernel_rfl) ?_
            simp -dsimp -implicitDefEqProofs (disch := omega) [go_sem, -List.getD_eq_getElem?_getD, ite_yes, htp, ht, hc, hfl, hlt]
            first | refine AAt.of (by first | exact SubH.refl | exact SubH.app | exact SubH.both (by simp [subL])) ?_ | (refine ⟨?_, AAt.of (by first | exact SubH.refl | exact SubH.app | exact SubH.both (by simp [subL])) ?_⟩; · omega)
            refine AAny.one 4 8 (by kernel_rfl) (by kernel_rfl) (by kernel_rfl) ?_
            simp -dsimp -implicitDefEqProofs (disch := omega) [go_sem, -List.getD_eq_getElem?_getD, ite_yes, htp, ht, hc, hfl, hlt]
            refine ACall.of (l18Dry_A n ps hN cp l (by omega) c src hsrc [id] (by simp) 1 k _ tp t (H.length + 2) hP.app hS.app (hids _)) ?_
            simp -dsimp -implicitDefEqProofs (disch := omega) [go_sem, -List.getD_eq_getElem?_getD, ite_yes, htp, ht, hc, hfl, hlt]
            first | refine AAt.of (by first | exact SubH.refl | exact SubH.app | exact SubH.both (by simp [subL])) ?_ | (refine ⟨?_, AAt.of (by first | exact SubH.refl | exact SubH.app | exact SubH.both (by simp [subL])) ?_⟩; · omega)
            refine AAny.takes (fuel := 3) (by kernel_rfl) (by kernel_rfl) [9] (by kernel_rfl) (by kernel_rfl) ?_
            simp -dsimp -implicitDefEqProofs (disch := omega) [go_sem, -List.getD_eq_getElem?_getD, ite_yes, htp, ht, hc, hfl, hlt]
            refine AAny.one 2 14 (by kernel_rfl) (by kernel_rfl) (by kernel_rfl) ?_
            simp -dsimp -implicitDefEqProofs (disch := omega) [go_sem, -List.getD_eq_getElem?_getD, ite_yes, htp, ht, hc, hfl, hlt]
            first | refine ACall.of (hB ▸ l18Dry_A n ps hN cp l (by omega) c src hsrc [] (by simp) 0 0 _ tp t (H.length + 4) hP.app hS.app (IdS.of (Sl.nth 4 rfl rfl))) ?_ | refine ACall.of (hB ▸ l18Dry_A n ps hN cp l (by omega) c src hsrc [] (by simp) 0 0 _ tp t (H.length + 3) hP.app hS.app (IdS.of (Sl.nth 3 rfl rfl))) ?_
            simp -dsimp -implicitDefEqProofs (disch := omega) [go_sem, -List.getD_eq_getElem?_getD, ite_yes, htp, ht, hc, hfl, hlt]
            first | refine AAt.of (by first | exact SubH.refl | exact SubH.app | exact SubH.both (by simp [subL])) ?_ | (refine ⟨?_, AAt.of (by first | exact SubH.refl | exact SubH.app | exact SubH.both (by simp [subL])) ?_⟩; · omega)
            refine AAny.takes (fuel := 0) (by kernel_rfl) (by kernel_rfl) [15, 16] (by kernel_rfl) (by kernel_rfl) ?_
            simp -dsimp -implicitDefEqProofs (disch := omega) [go_sem, -List.getD_eq_getElem?_getD, ite_yes, htp, ht, hc, hfl, hlt]
            refine AAny.done (by kernel_rfl) ?_
            simp -dsimp -implicitDefEqProofs (disch := omega) [go_sem, -List.getD_eq_getElem?_getD, ite_yes, htp, ht, hc, hfl, hlt]
            exact ⟨weakS_mk [some 0, some 1, some 2] rfl (by simp -dsimp -implicitDefEqProofs (disch := omega) [go_sem, -List.getD_eq_getElem?_getD, ite_yes]; exact ⟨wl_net htp, .inl ⟨rfl, nmE_flat _⟩, .inl ⟨rfl, nmE_flat _⟩⟩) (by simp -dsimp -implicitDefEqProofs (disch := omega) [go_sem, -List.getD_eq_getElem?_getD, ite_yes, htp, ht])⟩
      · simp -dsimp -implicitDefEqProofs (disch := omega) [go_sem, -List.getD_eq_getElem?_getD, ite_yes, hlt, hfl, c1, hfs]
        refine ⟨by omega, LoopEnd.of (k + 1) (by omega) (by omega) (weakS_mk [some 0, some 4, some 2] rfl ?_ (by simp -dsimp -implicitDefEqProofs (disch := omega) [go_sem, -List.getD_eq_getElem?_getD, ite_yes, htp, ht, e]))⟩
        simp -dsimp -implicitDefEqProofs (disch := omega) [go_sem, -List.getD_eq_getElem?_getD, ite_yes]
        exact ⟨wl_net htp, .inl ⟨by rw [e, List.flatMap_append]; rfl, by rw [show List.flatMap nmE (useTo n ps l src k) ++ [Value.int IntKind.i64 id] = List.flatMap nmE (useTo n ps l src (k + 1)) by rw [e, List.flatMap_append]; rfl]; exact nmE_flat _⟩, .inl ⟨rfl, nmE_flat _⟩⟩
    · rw [if_neg hc] at e
      simp -dsimp -implicitDefEqProofs (disch := omega) [go_sem, -List.getD_eq_getElem?_getD, ite_yes, hlt, htp, ht, c1, hfs]
      refine ADraw.mid ([(42, .bool false), (1, .slice (some ⟨t, 0, none⟩) l.length c), (2, .int .i64 src), (3, .pointer (some ⟨H.length, 0, none⟩)), (8, .slice (some ⟨H.length + 1, 0, none⟩) (useTo n ps l src k).length 0), (9, .slice (some ⟨H.length + 2, 0, none⟩) (shutL l).length 0), (10, .int .i64 k)]) (H ++ [some ⟨[.int .i64 n, .slice (some ⟨tp, 0, none⟩) ps.length cp], true, 46, 1⟩, some ⟨(useTo n ps l src k).flatMap nmE, true, 3, 1⟩, some ⟨(shutL l).flatMap nmE, true, 3, 1⟩]) ?_ ?_
      · skip
        refine ADraw.any (H ++ [none, none, some ⟨(shutL l).flatMap nmE, true, 3, 1⟩]) (by kernel_rfl) (by first | exact SubH.refl | exact SubH.app | exact SubH.both (by simp [subL])) ?_
        refine AAny.takes (fuel := 8) (by kernel_rfl) (by kernel_rfl) [1, 2, 3, 4, 5, 6, 7, 11, 12] (by kernel_rfl) (by kernel_rfl) ?_
        simp -dsimp -implicitDefEqProofs (disch := omega) [go_sem, -List.getD_eq_getElem?_getD, ite_yes, htp, ht, hc, hfl, hlt]
        refine AAny.three 7 0 10 13 (by kernel_rfl) (by kernel_rfl) (by kernel_rfl) ?_ ?_ ?_
        · simp -dsimp -implicitDefEqProofs (disch := omega) [go_sem, -List.getD_eq_getElem?_getD, ite_yes, htp, ht, hc, hfl, hlt]
          first | refine AAt.of (by first | exact SubH.refl | exact SubH.app | exact SubH.both (by simp [subL])) ?_ | (refine ⟨?_, AAt.of (by first | exact SubH.refl | exact SubH.app | exact SubH.both (by simp [subL])) ?_⟩; · omega)
          refine AAny.three 6 8 10 13 (by kernel_rfl) (by kernel_rfl) (by kernel_rfl) ?_ ?_ ?_
          · simp -dsimp -implicitDefEqProofs (disch := omega) [go_sem, -List.getD_eq_getElem?_getD, ite_yes, htp, ht, hc, hfl, hlt]
            refine ACall.of (l18Dry_A n ps hN cp l (by omega) c src hsrc [id] (by simp) 1 k _ tp t (H.length + 2) hP.app hS.app (hids _)) ?_
            simp -dsimp -implicitDefEqProofs (disch := omega) [go_sem, -List.getD_eq_getElem?_getD, ite_yes, htp, ht, hc, hfl, hlt]
            first | refine AAt.of (by first | exact SubH.refl | exact SubH.app | exact SubH.both (by simp [subL])) ?_ | (refine ⟨?_, AAt.of (by first | exact SubH.refl | exact SubH.app | exact SubH.both (by simp [subL])) ?_⟩; · omega)
            refine AAny.takes (fuel := 5) (by kernel_rfl) (by kernel_rfl) [9] (by kernel_rfl) (by kernel_rfl) ?_
            simp -dsimp -implicitDefEqProofs (disch := omega) [go_sem, -List.getD_eq_getElem?_getD, ite_yes, htp, ht, hc, hfl, hlt]
            refine AAny.two 4 10 13 (by kernel_rfl) (by kernel_rfl) (by kernel_rfl) ?_ ?_
            · simp -dsimp -implicitDefEqProofs (disch := omega) [go_sem, -List.getD_eq_getElem?_getD, ite_yes, htp, ht, hc, hfl, hlt]
              first | refine AAt.of (by first | exact SubH.refl | exact SubH.app | exact SubH.both (by simp [subL])) ?_ | (refine ⟨?_, AAt.of (by first | exact SubH.refl | exact SubH.app | exact SubH.both (by simp [subL])) ?_⟩; · omega)
              refine AAny.one 3 13 (by kernel_rfl) (by kernel_rfl) (by kernel_rfl) ?_
              simp -dsimp -implicitDefEqProofs (disch := omega) [go_sem, -List.getD_eq_getElem?_getD, ite_yes, htp, ht, hc, hfl, hlt]
              first | refine AAt.of (by first | exact SubH.refl | exact SubH.app | exact SubH.both (by simp [subL])) ?_ | (refine ⟨?_, AAt.of (by first | exact SubH.refl | exact SubH.app | exact SubH.both (by simp [subL])) ?_⟩; · omega)
              refine AAny.one 2 14 (by kernel_rfl) (by kernel_rfl) (by kernel_rfl) ?_
              simp -dsimp -implicitDefEqProofs (disch := omega) [go_sem, -List.getD_eq_getElem?_getD, ite_yes, htp, ht, hc, hfl, hlt]
              first | refine ACall.of (hB ▸ l18Dry_A n ps hN cp l (by omega) c src hsrc [] (by simp) 0 0 _ tp t (H.length + 4) hP.app hS.app (IdS.of (Sl.nth 4 rfl rfl))) ?_ | refine ACall.of (hB ▸ l18Dry_A n ps hN cp l (by omega) c src hsrc [] (by simp) 0 0 _ tp t (H.length + 3) hP.app hS.app (IdS.of (Sl.nth 3 rfl rfl))) ?_
              simp -dsimp -implicitDefEqProofs (disch := omega) [go_sem, -List.getD_eq_getElem?_getD, ite_yes, htp, ht, hc, hfl, hlt]
              first | refine AAt.of (by first | exact SubH.refl | exact SubH.app | exact SubH.both (by simp [subL])) ?_ | (refine ⟨?_, AAt.of (by first | exact SubH.refl | exact SubH.app | exact SubH.both (by simp [subL])) ?_⟩; · omega)
              refine AAny.takes (fuel := 0) (by kernel_rfl) (by kernel_rfl) [15, 16] (by kernel_rfl) (by kernel_rfl) ?_
              simp -dsimp -implicitDefEqProofs (disch := omega) [go_sem, -List.getD_eq_getElem?_getD, ite_yes, htp, ht, hc, hfl, hlt]
              refine AAny.done (by kernel_rfl) ?_
              simp -dsimp -implicitDefEqProofs (disch := omega) [go_sem, -List.getD_eq_getElem?_getD, ite_yes, htp, ht, hc, hfl, hlt]
              exact ⟨weakS_mk [some 0, some 1, some 2] rfl (by simp -dsimp -implicitDefEqProofs (disch := omega) [go_sem, -List.getD_eq_getElem?_getD, ite_yes]; exact ⟨wl_net htp, .inl ⟨rfl, nmE_flat _⟩, .inl ⟨rfl, nmE_flat _⟩⟩) (by simp -dsimp -implicitDefEqProofs (disch := omega) [go_sem, -List.getD_eq_getElem?_getD, ite_yes, htp, ht])⟩
            · simp -dsimp -implicitDefEqProofs (disch := omega) [go_sem, -List.getD_eq_getElem?_getD, ite_yes, htp, ht, hc, hfl, hlt]
              first | refine AAt.of (by first | exact SubH.refl | exact SubH.app | exact SubH.both (by simp [subL])) ?_ | (refine ⟨?_, AAt.of (by first | exact SubH.refl | exact SubH.app | exact SubH.both (by simp [subL])) ?_⟩; · omega)
              refine AAny.one 3 10 (by kernel_rfl) (by kernel_rfl) (by kernel_rfl) ?_
              simp -dsimp -implicitDefEqProofs (disch := omega) [go_sem, -List.getD_eq_getElem?_getD, ite_yes, htp, ht, hc, hfl, hlt]
              first | refine AAt.of (by first | exact SubH.refl | exact SubH.app | exact SubH.both (by simp [subL])) ?_ | (refine ⟨?_, AAt.of (by first | exact SubH.refl | exact SubH.app | exact SubH.both (by simp [subL])) ?_⟩; · omega)
              refine AAny.one 2 14 (by kernel_rfl) (by kernel_rfl) (by kernel_rfl) ?_
              simp -dsimp -implicitDefEqProofs (disch := omega) [go_sem, -List.getD_eq_getElem?_getD, ite_yes, htp, ht, hc, hfl, hlt]
              first | refine ACall.of (hB ▸ l18Dry_A n ps hN cp l (by omega) c src hsrc [] (by simp) 0 0 _ tp t (H.length + 4) hP.app hS.app (IdS.of (Sl.nth 4 rfl rfl))) ?_ | refine ACall.of (hB ▸ l18Dry_A n ps hN cp l (by omega) c src hsrc [] (by simp) 0 0 _ tp t (H.length + 3) hP.app hS.app (IdS.of (Sl.nth 3 rfl rfl))) ?_
              simp -dsimp -implicitDefEqProofs (disch := omega) [go_sem, -List.getD_eq_getElem?_getD, ite_yes, htp, ht, hc, hfl, hlt]
              first | refine AAt.of (by first | exact SubH.refl | exact SubH.app | exact SubH.both (by simp [subL])) ?_ | (refine ⟨?_, AAt.of (by first | exact SubH.refl | exact SubH.app | exact SubH.both (by simp [subL])) ?_⟩; · omega)
              refine AAny.takes (fuel := 0) (by kernel_rfl) (by kernel_rfl) [15, 16] (by kernel_rfl) (by kernel_rfl) ?_
              simp -dsimp -implicitDefEqProofs (disch := omega) [go_sem, -List.getD_eq_getElem?_getD, ite_yes, htp, ht, hc, hfl, hlt]
              refine AAny.done (by kernel_rfl) ?_
              simp -dsimp -implicitDefEqProofs (disch := omega) [go_sem, -List.getD_eq_getElem?_getD, ite_yes, htp, ht, hc, hfl, hlt]
              exact ⟨weakS_mk [some 0, some 1, some 2] rfl (by simp -dsimp -implicitDefEqProofs (disch := omega) [go_sem, -List.getD_eq_getElem?_getD, ite_yes]; exact ⟨wl_net htp, .inl ⟨rfl, nmE_flat _⟩, .inl ⟨rfl, nmE_flat _⟩⟩) (by simp -dsimp -implicitDefEqProofs (disch := omega) [go_sem, -List.getD_eq_getElem?_getD, ite_yes, htp, ht])⟩
          · simp -dsimp -implicitDefEqProofs (disch := omega) [go_sem, -List.getD_eq_getElem?_getD, ite_yes, htp, ht, hc, hfl, hlt]
            first | refine AAt.of (by first | exact SubH.refl | exact SubH.app | exact SubH.both (by simp [subL])) ?_ | (refine ⟨?_, AAt.of (by first | exact SubH.refl | exact SubH.app | exact SubH.both (by simp [subL])) ?_⟩; · omega)
            refine AAny.two 5 8 13 (by kernel_rfl) (by kernel_rfl) (by kernel_rfl) ?_ ?_
            · simp -dsimp -implicitDefEqProofs (disch := omega) [go_sem, -List.getD_eq_getElem?_getD, ite_yes, htp, ht, hc, hfl, hlt]
              refine ACall.of (l18Dry_A n ps hN cp l (by omega) c src hsrc [id] (by simp) 1 k _ tp t (H.length + 2) hP.app hS.app (hids _)) ?_
              simp -dsimp -implicitDefEqProofs (disch := omega) [go_sem, -List.getD_eq_getElem?_getD, ite_yes, htp, ht, hc, hfl, hlt]
              first | refine AAt.of (by first | exact SubH.refl | exact SubH.app | exact SubH.both (by simp [subL])) ?_ | (refine ⟨?_, AAt.of (by first | exact SubH.refl | exact SubH.app | exact SubH.both (by simp [subL])) ?_⟩; · omega)
              refine AAny.takes (fuel := 4) (by kernel_rfl) (by kernel_rfl) [9] (by kernel_rfl) (by kernel_rfl) ?_
              simp -dsimp -implicitDefEqProofs (disch := omega) [go_sem, -List.getD_eq_getElem?_getD, ite_yes, htp, ht, hc, hfl, hlt]
              refine AAny.one 3 13 (by kernel_rfl) (by kernel_rfl) (by kernel_rfl) ?_
              simp -dsimp -implicitDefEqProofs (disch := omega) [go_sem, -List.getD_eq_getElem?_getD, ite_yes, htp, ht, hc, hfl, hlt]
              first | refine AAt.of (by first | exact SubH.refl | exact SubH.app | exact SubH.both (by simp [subL])) ?_ | (refine ⟨?_, AAt.of (by first | exact SubH.refl | exact SubH.app | exact SubH.both (by simp [subL])) ?_⟩; · omega)
              refine AAny.one 2 14 (by kernel_rfl) (by kernel_rfl) (by kernel_rfl) ?_
              simp -dsimp -implicitDefEqProofs (disch := omega) [go_sem, -List.getD_eq_getElem?_getD, ite_yes, htp, ht, hc, hfl, hlt]
              first | refine ACall.of (hB ▸ l18Dry_A n ps hN cp l (by omega) c src hsrc [] (by simp) 0 0 _ tp t (H.length + 4) hP.app hS.app (IdS.of (Sl.nth 4 rfl rfl))) ?_ | refine ACall.of (hB ▸ l18Dry_A n ps hN cp l (by omega) c src hsrc [] (by simp) 0 0 _ tp t (H.length + 3) hP.app hS.app (IdS.of (Sl.nth 3 rfl rfl))) ?_
              simp -dsimp -implicitDefEqProofs (disch := omega) [go_sem, -List.getD_eq_getElem?_getD, ite_yes, htp, ht, hc, hfl, hlt]
              first | refine AAt.of (by first | exact SubH.refl | exact SubH.app | exact SubH.both (by simp [subL])) ?_ | (refine ⟨?_, AAt.of (by first | exact SubH.refl | exact SubH.app | exact SubH.both (by simp [subL])) ?_⟩; · omega)
              refine AAny.takes (fuel := 0) (by kernel_rfl) (by kernel_rfl) [15, 16] (by kernel_rfl) (by kernel_rfl) ?_
              simp -dsimp -implicitDefEqProofs (disch := omega) [go_sem, -List.getD_eq_getElem?_getD, ite_yes, htp, ht, hc, hfl, hlt]
              refine AAny.done (by kernel_rfl) ?_
              simp -dsimp -implicitDefEqProofs (disch := omega) [go_sem, -List.getD_eq_getElem?_getD, ite_yes, htp, ht, hc, hfl, hlt]
              exact ⟨weakS_mk [some 0, some 1, some 2] rfl (by simp -dsimp -implicitDefEqProofs (disch := omega) [go_sem, -List.getD_eq_getElem?_getD, ite_yes]; exact ⟨wl_net htp, .inl ⟨rfl, nmE_flat _⟩, .inl ⟨rfl, nmE_flat _⟩⟩) (by simp -dsimp -implicitDefEqProofs (disch := omega) [go_sem, -List.getD_eq_getElem?_getD, ite_yes, htp, ht])⟩
            · simp -dsimp -implicitDefEqProofs (disch := omega) [go_sem, -List.getD_eq_getElem?_getD, ite_yes, htp, ht, hc, hfl, hlt]
              first | refine AAt.of (by first | exact SubH.refl | exact SubH.app | exact SubH.both (by simp [subL])) ?_ | (refine ⟨?_, AAt.of (by first | exact SubH.refl | exact SubH.app | exact SubH.both (by simp [subL])) ?_⟩; · omega)
              refine AAny.one 4 8 (by kernel_rfl) (by kernel_rfl) (by kernel_rfl) ?_
              simp -dsimp -implicitDefEqProofs (disch := omega) [go_sem, -List.getD_eq_getElem?_getD, ite_yes, htp, ht, hc, hfl, hlt]
              refine ACall.of (l18Dry_A n ps hN cp l (by omega) c src hsrc [id] (by simp) 1 k _ tp t (H.length + 2) hP.app hS.app (hids _)) ?_
              simp -dsimp -implicitDefEqProofs (disch := omega) [go_sem, -List.getD_eq_getElem?_getD, ite_yes, htp, ht, hc, hfl, hlt]
              first | refine AAt.of (by first | exact SubH.refl | exact SubH.app | exact SubH.both (by simp [subL])) ?_ | (refine ⟨?_, AAt.of (by first | exact SubH.refl | exact SubH.app | exact SubH.both (by simp [subL])) ?_⟩; · omega)
              refine AAny.takes (fuel := 3) (by kernel_rfl) (by kernel_rfl) [9] (by kernel_rfl) (by kernel_rfl) ?_
              simp -dsimp -implicitDefEqProofs (disch := omega) [go_sem, -List.getD_eq_getElem?_getD, ite_yes, htp, ht, hc, hfl, hlt]
              refine AAny.one 2 14 (by kernel_rfl) (by kernel_rfl) (by kernel_rfl) ?_
              simp -dsimp -implicitDefEqProofs (disch := omega) [go_sem, -List.getD_eq_getElem?_getD, ite_yes, htp, ht, hc, hfl, hlt]
              first | refine ACall.of (hB ▸ l18Dry_A n ps hN cp l (by omega) c src hsrc [] (by simp) 0 0 _ tp t (H.length + 4) hP.app hS.app (IdS.of (Sl.nth 4 rfl rfl))) ?_ | refine ACall.of (hB ▸ l18Dry_A n ps hN cp l (by omega) c src hsrc [] (by simp) 0 0 _ tp t (H.length + 3) hP.app hS.app (IdS.of (Sl.nth 3 rfl rfl))) ?_
              simp -dsimp -implicitDefEqProofs (disch := omega) [go_sem, -List.getD_eq_getElem?_getD, ite_yes, htp, ht, hc, hfl, hlt]
              first | refine AAt.of (by first | exact SubH.refl | exact SubH.app | exact SubH.both (by simp [subL])) ?_ | (refine ⟨?_, AAt.of (by first | exact SubH.refl | exact SubH.app | exact SubH.both (by simp [subL])) ?_⟩; · omega)
              refine AAny.takes (fuel := 0) (by kernel_rfl) (by kernel_rfl) [15, 16] (by kernel_rfl) (by kernel_rfl) ?_
              simp -dsimp -implicitDefEqProofs (disch := omega) [go_sem, -List.getD_eq_getElem?_getD, ite_yes, htp, ht, hc, hfl, hlt]
              refine AAny.done (by kernel_rfl) ?_
              simp -dsimp -implicitDefEqProofs (disch := omega) [go_sem, -List.getD_eq_getElem?_getD, ite_yes, htp, ht, hc, hfl, hlt]
              exact ⟨weakS_mk [some 0, some 1, some 2] rfl (by simp -dsimp -implicitDefEqProofs (disch := omega) [go_sem, -List.getD_eq_getElem?_getD, ite_yes]; exact ⟨wl_net htp, .inl ⟨rfl, nmE_flat _⟩, .inl ⟨rfl, nmE_flat _⟩⟩) (by simp -dsimp -implicitDefEqProofs (disch := omega) [go_sem, -List.getD_eq_getElem?_getD, ite_yes, htp, ht])⟩
          · simp -dsimp -implicitDefEqProofs (disch := omega) [go_sem, -List.getD_eq_getElem?_getD, ite_yes, htp, ht, hc, hfl, hlt]
            first | refine AAt.of (by first | exact SubH.refl | exact SubH.app | exact SubH.both (by simp [subL])) ?_ | (refine ⟨?_, AAt.of (by first | exact SubH.refl | exact SubH.app | exact SubH.both (by simp [subL])) ?_⟩; · omega)
            refine AAny.two 5 8 10 (by kernel_rfl) (by kernel_rfl) (by kernel_rfl) ?_ ?_
            · simp -dsimp -implicitDefEqProofs (disch := omega) [go_sem, -List.getD_eq_getElem?_getD, ite_yes, htp, ht, hc, hfl, hlt]
              refine ACall.of (l18Dry_A n ps hN cp l (by omega) c src hsrc [id] (by simp) 1 k _ tp t (H.length + 2) hP.app hS.app (hids _)) ?_
              simp -dsimp -implicitDefEqProofs (disch := omega) [go_sem, -List.getD_eq_getElem?_getD, ite_yes, htp, ht, hc, hfl, hlt]
              first | refine AAt.of (by first | exact SubH.refl | exact SubH.app | exact SubH.both (by simp [subL])) ?_ | (refine ⟨?_, AAt.of (by first | exact SubH.refl | exact SubH.app | exact SubH.both (by simp [subL])) ?_⟩; · omega)
              refine AAny.takes (fuel := 4) (by kernel_rfl) (by kernel_rfl) [9] (by kernel_rfl) (by kernel_rfl) ?_
              simp -dsimp -implicitDefEqProofs (disch := omega) [go_sem, -List.getD_eq_getElem?_getD, ite_yes, htp, ht, hc, hfl, hlt]
              refine AAny.one 3 10 (by kernel_rfl) (by kernel_rfl) (by kernel_rfl) ?_
              simp -dsimp -implicitDefEqProofs (disch := omega) [go_sem, -List.getD_eq_getElem?_getD, ite_yes, htp, ht, hc, hfl, hlt]
              first | refine AAt.of (by first | exact SubH.refl | exact SubH.app | exact SubH.both (by simp [subL])) ?_ | (refine ⟨?_, AAt.of (by first | exact SubH.refl | exact SubH.app | exact SubH.both (by simp [subL])) ?_⟩; · omega)
              refine AAny.one 2 14 (by kernel_rfl) (by kernel_rfl) (by kernel_rfl) ?_
              simp -dsimp -implicitDefEqProofs (disch := omega) [go_sem, -List.getD_eq_getElem?_getD, ite_yes, htp, ht, hc, hfl, hlt]
              first | refine ACall.of (hB ▸ l18Dry_A n ps hN cp l (by omega) c src hsrc [] (by simp) 0 0 _ tp t (H.length + 4) hP.app hS.app (IdS.of (Sl.nth 4 rfl rfl))) ?_ | refine ACall.of (hB ▸ l18Dry_A n ps hN cp l (by omega) c src hsrc [] (by simp) 0 0 _ tp t (H.length + 3) hP.app hS.app (IdS.of (Sl.nth 3 rfl rfl))) ?_
              simp -dsimp -implicitDefEqProofs (disch := omega) [go_sem, -List.getD_eq_getElem?_getD, ite_yes, htp, ht, hc, hfl, hlt]
              first | refine AAt.of (by first | exact SubH.refl | exact SubH.app | exact SubH.both (by simp [subL])) ?_ | (refine ⟨?_, AAt.of (by first | exact SubH.refl | exact SubH.app | exact SubH.both (by simp [subL])) ?_⟩; · omega)
              refine AAny.takes (fuel := 0) (by kernel_rfl) (by kernel_rfl) [15, 16] (by kernel_rfl) (by kernel_rfl) ?_
              simp -dsimp -implicitDefEqProofs (disch := omega) [go_sem, -List.getD_eq_getElem?_getD, ite_yes, htp, ht, hc, hfl, hlt]
              refine AAny.done (by kernel_rfl) ?_
              simp -dsimp -implicitDefEqProofs (disch := omega) [go_sem, -List.getD_eq_getElem?_getD, ite_yes, htp, ht, hc, hfl, hlt]
              exact ⟨weakS_mk [some 0, some 1, some 2] rfl (by simp -dsimp -implicitDefEqProofs (disch := omega) [go_sem, -List.getD_eq_getElem?_getD, ite_yes]; exact ⟨wl_net htp, .inl ⟨rfl, nmE_flat _⟩, .inl ⟨rfl, nmE_flat _⟩⟩) (by simp -dsimp -implicitDefEqProofs (disch := omega) [go_sem, -List.getD_eq_getElem?_getD, ite_yes, htp, ht])⟩
            · simp -dsimp -implicitDefEqProofs (disch := omega) [go_sem, -List.getD_eq_getElem?_getD, ite_yes, htp, ht, hc, hfl, hlt]
              first | refine AAt.of (by first | exact SubH.refl | exact SubH.app | exact SubH.both (by simp [subL])) ?_ | (refine ⟨?_, AAt.of (by first | exact SubH.refl | exact SubH.app | exact SubH.both (by simp [subL])) ?_⟩; · omega)
              refine AAny.one 4 8 (by kernel_rfl) (by kernel_rfl) (by kernel_rfl) ?_
              simp -dsimp -implicitDefEqProofs (disch := omega) [go_sem, -List.getD_eq_getElem?_getD, ite_yes, htp, ht, hc, hfl, hlt]
              refine ACall.of (l18Dry_A n ps hN cp l (by omega) c src hsrc [id] (by simp) 1 k _ tp t (H.length + 2) hP.app hS.app (hids _)) ?_
              simp -dsimp -implicitDefEqProofs (disch := omega) [go_sem, -List.getD_eq_getElem?_getD, ite_yes, htp, ht, hc, hfl, hlt]
              first | refine AAt.of (by first | exact SubH.refl | exact SubH.app | exact SubH.both (by simp [subL])) ?_ | (refine ⟨?_, AAt.of (by first | exact SubH.refl | exact SubH.app | exact SubH.both (by simp [subL])) ?_⟩; · omega)
              refine AAny.takes (fuel := 3) (by kernel_rfl) (by kernel_rfl) [9] (by kernel_rfl) (by kernel_rfl) ?_
              simp -dsimp -implicitDefEqProofs (disch := omega) [go_sem, -List.getD_eq_getElem?_getD, ite_yes, htp, ht, hc, hfl, hlt]
              refine AAny.one 2 14 (by kernel_rfl) (by kernel_rfl) (by kernel_rfl) ?_
              simp -dsimp -implicitDefEqProofs (disch := omega) [go_sem, -List.getD_eq_getElem?_getD, ite_yes, htp, ht, hc, hfl, hlt]
              first | refine ACall.of (hB ▸ l18Dry_A n ps hN cp l (by omega) c src hsrc [] (by simp) 0 0 _ tp t (H.length + 4) hP.app hS.app (IdS.of (Sl.nth 4 rfl rfl))) ?_ | refine ACall.of (hB ▸ l18Dry_A n ps hN cp l (by omega) c src hsrc [] (by simp) 0 0 _ tp t (H.length + 3) hP.app hS.app (IdS.of (Sl.nth 3 rfl rfl))) ?_
              simp -dsimp -implicitDefEqProofs (disch := omega) [go_sem, -List.getD_eq_getElem?_getD, ite_yes, htp, ht, hc, hfl, hlt]
              first | refine AAt.of (by first | exact SubH.refl | exact SubH.app | exact SubH.both (by simp [subL])) ?_ | (refine ⟨?_, AAt.of (by first | exact SubH.refl | exact SubH.app | exact SubH.both (by simp [subL])) ?_⟩; · omega)
              refine AAny.takes (fuel := 0) (by kernel_rfl) (by kernel_rfl) [15, 16] (by kernel_rfl) (by kernel_rfl) ?_
              simp -dsimp -implicitDefEqProofs (disch := omega) [go_sem, -List.getD_eq_getElem?_getD, ite_yes, htp, ht, hc, hfl, hlt]
              refine AAny.done (by kernel_rfl) ?_
              simp -dsimp -implicitDefEqProofs (disch := omega) [go_sem, -List.getD_eq_getElem?_getD, ite_yes, htp, ht, hc, hfl, hlt]
              exact ⟨weakS_mk [some 0, some 1, some 2] rfl (by simp -dsimp -implicitDefEqProofs (disch := omega) [go_sem, -List.getD_eq_getElem?_getD, ite_yes]; exact ⟨wl_net htp, .inl ⟨rfl, nmE_flat _⟩, .inl ⟨rfl, nmE_flat _⟩⟩) (by simp -dsimp -implicitDefEqProofs (disch := omega) [go_sem, -List.getD_eq_getElem?_getD, ite_yes, htp, ht])⟩
        · simp -dsimp -implicitDefEqProofs (disch := omega) [go_sem, -List.getD_eq_getElem?_getD, ite_yes, htp, ht, hc, hfl, hlt]
          first | refine AAt.of (by first | exact SubH.refl | exact SubH.app | exact SubH.both (by simp [subL])) ?_ | (refine ⟨?_, AAt.of (by first | exact SubH.refl | exact SubH.app | exact SubH.both (by simp [subL])) ?_⟩; · omega)
          refine AAny.two 6 0 13 (by kernel_rfl) (by kernel_rfl) (by kernel_rfl) ?_ ?_
          · simp -dsimp -implicitDefEqProofs (disch := omega) [go_sem, -List.getD_eq_getElem?_getD, ite_yes, htp, ht, hc, hfl, hlt]
            first | refine AAt.of (by first | exact SubH.refl | exact SubH.app | exact SubH.both (by simp [subL])) ?_ | (refine ⟨?_, AAt.of (by first | exact SubH.refl | exact SubH.app | exact SubH.both (by simp [subL])) ?_⟩; · omega)
            refine AAny.two 5 8 13 (by kernel_rfl) (by kernel_rfl) (by kernel_rfl) ?_ ?_
            · simp -dsimp -implicitDefEqProofs (disch := omega) [go_sem, -List.getD_eq_getElem?_getD, ite_yes, htp, ht, hc, hfl, hlt]
              refine ACall.of (l18Dry_A n ps hN cp l (by omega) c src hsrc [id] (by simp) 1 k _ tp t (H.length + 2) hP.app hS.app (hids _)) ?_
              simp -dsimp -implicitDefEqProofs (disch := omega) [go_sem, -List.getD_eq_getElem?_getD, ite_yes, htp, ht, hc, hfl, hlt]
              first | refine AAt.of (by first | exact SubH.refl | exact SubH.app | exact SubH.both (by simp [subL])) ?_ | (refine ⟨?_, AAt.of (by first | exact SubH.refl | exact SubH.app | exact SubH.both (by simp [subL])) ?_⟩; · omega)
              refine AAny.takes (fuel := 4) (by kernel_rfl) (by kernel_rfl) [9] (by kernel_rfl) (by kernel_rfl) ?_
              simp -dsimp -implicitDefEqProofs (disch := omega) [go_sem, -List.getD_eq_getElem?_getD, ite_yes, htp, ht, hc, hfl, hlt]
              refine AAny.one 3 13 (by kernel_rfl) (by kernel_rfl) (by kernel_rfl) ?_
              simp -dsimp -implicitDefEqProofs (disch := omega) [go_sem, -List.getD_eq_getElem?_getD, ite_yes, htp, ht, hc, hfl, hlt]
              first | refine AAt.of (by first | exact SubH.refl | exact SubH.app | exact SubH.both (by simp [subL])) ?_ | (refine ⟨?_, AAt.of (by first | exact SubH.refl | exact SubH.app | exact SubH.both (by simp [subL])) ?_⟩; · omega)
              refine AAny.one 2 14 (by kernel_rfl) (by kernel_rfl) (by kernel_rfl) ?_
              simp -dsimp -implicitDefEqProofs (disch := omega) [go_sem, -List.getD_eq_getElem?_getD, ite_yes, htp, ht, hc, hfl, hlt]
              first | refine ACall.of (hB ▸ l18Dry_A n ps hN cp l (by omega) c src hsrc [] (by simp) 0 0 _ tp t (H.length + 4) hP.app hS.app (IdS.of (Sl.nth 4 rfl rfl))) ?_ | refine ACall.of (hB ▸ l18Dry_A n ps hN cp l (by omega) c src hsrc [] (by simp) 0 0 _ tp t (H.length + 3) hP.app hS.app (IdS.of (Sl.nth 3 rfl rfl))) ?_
              simp -dsimp -implicitDefEqProofs (disch := omega) [go_sem, -List.getD_eq_getElem?_getD, ite_yes, htp, ht, hc, hfl, hlt]
              first | refine AAt.of (by first | exact SubH.refl | exact SubH.app | exact SubH.both (by simp [subL])) ?_ | (refine ⟨?_, AAt.of (by first | exact SubH.refl | exact SubH.app | exact SubH.both (by simp [subL])) ?_⟩; · omega)
              refine AAny.takes (fuel := 0) (by kernel_rfl) (by kernel_rfl) [15, 16] (by kernel_rfl) (by kernel_rfl) ?_
              simp -dsimp -implicitDefEqProofs (disch := omega) [go_sem, -List.getD_eq_getElem?_getD, ite_yes, htp, ht, hc, hfl, hlt]
              refine AAny.done (by kernel_rfl) ?_
              simp -dsimp -implicitDefEqProofs (disch := omega) [go_sem, -List.getD_eq_getElem?_getD, ite_yes, htp, ht, hc, hfl, hlt]
              exact ⟨weakS_mk [some 0, some 1, some 2] rfl (by simp -dsimp -implicitDefEqProofs (disch := omega) [go_sem, -List.getD_eq_getElem?_getD, ite_yes]; exact ⟨wl_net htp, .inl ⟨rfl, nmE_flat _⟩, .inl ⟨rfl, nmE_flat _⟩⟩) (by simp -dsimp -implicitDefEqProofs (disch := omega) [go_sem, -List.getD_eq_getElem?_getD, ite_yes, htp, ht])⟩
            · simp -dsimp -implicitDefEqProofs (disch := omega) [go_sem, -List.getD_eq_getElem?_getD, ite_yes, htp, ht, hc, hfl, hlt]
              first | refine AAt.of (by first | exact SubH.refl | exact SubH.app | exact SubH.both (by simp [subL])) ?_ | (refine ⟨?_, AAt.of (by first | exact SubH.refl | exact SubH.app | exact SubH.both (by simp [subL])) ?_⟩; · omega)
              refine AAny.one 4 8 (by kernel_rfl) (by kernel_rfl) (by kernel_rfl) ?_
              simp -dsimp -implicitDefEqProofs (disch := omega) [go_sem, -List.getD_eq_getElem?_getD, ite_yes, htp, ht, hc, hfl, hlt]
              refine ACall.of (l18Dry_A n ps hN cp l (by omega) c src hsrc [id] (by simp) 1 k _ tp t (H.length + 2) hP.app hS.app (hids _)) ?_
              simp -dsimp -implicitDefEqProofs (disch := omega) [go_sem, -List.getD_eq_getElem?_getD, ite_yes, htp, ht, hc, hfl, hlt]
              first | refine AAt.of (by first | exact SubH.refl | exact SubH.app | exact SubH.both (by simp [subL])) ?_ | (refine ⟨?_, AAt.of (by first | exact SubH.refl | exact SubH.app | exact SubH.both (by simp [subL])) ?_⟩; · omega)
              refine AAny.takes (fuel := 3) (by kernel_rfl) (by kernel_rfl) [9] (by kernel_rfl) (by kernel_rfl) ?_
              simp -dsimp -implicitDefEqProofs (disch := omega) [go_sem, -List.getD_eq_getElem?_getD, ite_yes, htp, ht, hc, hfl, hlt]
              refine AAny.one 2 14 (by kernel_rfl) (by kernel_rfl) (by kernel_rfl) ?_
              simp -dsimp -implicitDefEqProofs (disch := omega) [go_sem, -List.getD_eq_getElem?_getD, ite_yes, htp, ht, hc, hfl, hlt]
              first | refine ACall.of (hB ▸ l18Dry_A n ps hN cp l (by omega) c src hsrc [] (by simp) 0 0 _ tp t (H.length + 4) hP.app hS.app (IdS.of (Sl.nth 4 rfl rfl))) ?_ | refine ACall.of (hB ▸ l18Dry_A n ps hN cp l (by omega) c src hsrc [] (by simp) 0 0 _ tp t (H.length + 3) hP.app hS.app (IdS.of (Sl.nth 3 rfl rfl))) ?_
              simp -dsimp -implicitDefEqProofs (disch := omega) [go_sem, -List.getD_eq_getElem?_getD, ite_yes, htp, ht, hc, hfl, hlt]
              first | refine AAt.of (by first | exact SubH.refl | exact SubH.app | exact SubH.both (by simp [subL])) ?_ | (refine ⟨?_, AAt.of (by first | exact SubH.refl | exact SubH.app | exact SubH.both (by simp [subL])) ?_⟩; · omega)
              refine AAny.takes (fuel := 0) (by kernel_rfl) (by kernel_rfl) [15, 16] (by kernel_rfl) (by kernel_rfl) ?_
              simp -dsimp -implicitDefEqProofs (disch := omega) [go_sem, -List.getD_eq_getElem?_getD, ite_yes, htp, ht, hc, hfl, hlt]
              refine AAny.done (by kernel_rfl) ?_
              simp -dsimp -implicitDefEqProofs (disch := omega) [go_sem, -List.getD_eq_getElem?_getD, ite_yes, htp, ht, hc, hfl, hlt]
              exact ⟨weakS_mk [some 0, some 1, some 2] rfl (by simp -dsimp -implicitDefEqProofs (disch := omega) [go_sem, -List.getD_eq_getElem?_getD, ite_yes]; exact ⟨wl_net htp, .inl ⟨rfl, nmE_flat _⟩, .inl ⟨rfl, nmE_flat _⟩⟩) (by simp -dsimp -implicitDefEqProofs (disch := omega) [go_sem, -List.getD_eq_getElem?_getD, ite_yes, htp, ht])⟩
          · simp -dsimp -implicitDefEqProofs (disch := omega) [go_sem, -List.getD_eq_getElem?_getD, ite_yes, htp, ht, hc, hfl, hlt]
            first | refine AAt.of (by first | exact SubH.refl | exact SubH.app | exact SubH.both (by simp [subL])) ?_ | (refine ⟨?_, AAt.of (by first | exact SubH.refl | exact SubH.app | exact SubH.both (by simp [subL])) ?_⟩; · omega)
            refine AAny.one 5 0 (by kernel_rfl) (by kernel_rfl) (by kernel_rfl) ?_
            simp -dsimp -implicitDefEqProofs (disch := omega) [go_sem, -List.getD_eq_getElem?_getD, ite_yes, htp, ht, hc, hfl, hlt]
            first | refine AAt.of (by first | exact SubH.refl | exact SubH.app | exact SubH.both (by simp [subL])) ?_ | (refine ⟨?_, AAt.of (by first | exact SubH.refl | exact SubH.app | exact SubH.both (by simp [subL])) ?_⟩; · omega)
            refine AAny.one 4 8 (by kernel_rfl) (by kernel_rfl) (by kernel_rfl) ?_
            simp -dsimp -implicitDefEqProofs (disch := omega) [go_sem, -List.getD_eq_getElem?_getD, ite_yes, htp, ht, hc, hfl, hlt]
            refine ACall.of (l18Dry_A n ps hN cp l (by omega) c src hsrc [id] (by simp) 1 k _ tp t (H.length + 2) hP.app hS.app (hids _)) ?_
            simp -dsimp -implicitDefEqProofs (disch := omega) [go_sem, -List.getD_eq_getElem?_getD, ite_yes, htp, ht, hc, hfl, hlt]
            first | refine AAt.of (by first | exact SubH.refl | exact SubH.app | exact SubH.both (by simp [subL])) ?_ | (refine ⟨?_, AAt.of (by first | exact SubH.refl | exact SubH.app | exact SubH.both (by simp [subL])) ?_⟩; · omega)
            refine AAny.takes (fuel := 3) (by kernel_rfl) (by kernel_rfl) [9] (by kernel_rfl) (by kernel_rfl) ?_
            simp -dsimp -implicitDefEqProofs (disch := omega) [go_sem, -List.getD_eq_getElem?_getD, ite_yes, htp, ht, hc, hfl, hlt]
            refine AAny.one 2 14 (by kernel_rfl) (by kernel_rfl) (by kernel_rfl) ?_
            simp -dsimp -implicitDefEqProofs (disch := omega) [go_sem, -List.getD_eq_getElem?_getD, ite_yes, htp, ht, hc, hfl, hlt]
            first | refine ACall.of (hB ▸ l18Dry_A n ps hN cp l (by omega) c src hsrc [] (by simp) 0 0 _ tp t (H.length + 4) hP.app hS.app (IdS.of (Sl.nth 4 rfl rfl))) ?_ | refine ACall.of (hB ▸ l18Dry_A n ps hN cp l (by omega) c src hsrc [] (by simp) 0 0 _ tp t (H.length + 3) hP.app hS.app (IdS.of (Sl.nth 3 rfl rfl))) ?_
            simp -dsimp -implicitDefEqProofs (disch := omega) [go_sem, -List.getD_eq_getElem?_getD, ite_yes, htp, ht, hc, hfl, hlt]
            first | refine AAt.of (by first | exact SubH.refl | exact SubH.app | exact SubH.both (by simp [subL])) ?_ | (refine ⟨?_, AAt.of (by first | exact SubH.refl | exact SubH.app | exact SubH.both (by simp [subL])) ?_⟩; · omega)
            refine AAny.takes (fuel := 0) (by kernel_rfl) (by kernel_rfl) [15, 16] (by kernel_rfl) (by kernel_rfl) ?_
            simp -dsimp -implicitDefEqProofs (disch := omega) [go_sem, -List.getD_eq_getElem?_getD, ite_yes, htp, ht, hc, hfl, hlt]
            refine AAny.done (by kernel_rfl) ?_
            simp -dsimp -implicitDefEqProofs (disch := omega) [go_sem, -List.getD_eq_getElem?_getD, ite_yes, htp, ht, hc, hfl, hlt]
            exact ⟨weakS_mk [some 0, some 1, some 2] rfl (by simp -dsimp -implicitDefEqProofs (disch := omega) [go_sem, -List.getD_eq_getElem?_getD, ite_yes]; exact ⟨wl_net htp, .inl ⟨rfl, nmE_flat _⟩, .inl ⟨rfl, nmE_flat _⟩⟩) (by simp -dsimp -implicitDefEqProofs (disch := omega) [go_sem, -List.getD_eq_getElem?_getD, ite_yes, htp, ht])⟩
        · simp -dsimp -implicitDefEqProofs (disch := omega) [go_sem, -List.getD_eq_getElem?_getD, ite_yes, htp, ht, hc, hfl, hlt]
          first | refine AAt.of (by first | exact SubH.refl | exact SubH.app | exact SubH.both (by simp [subL])) ?_ | (refine ⟨?_, AAt.of (by first | exact SubH.refl | exact SubH.app | exact SubH.both (by simp [subL])) ?_⟩; · omega)
          refine AAny.two 6 0 10 (by kernel_rfl) (by kernel_rfl) (by kernel_rfl) ?_ ?_
          · simp -dsimp -implicitDefEqProofs (disch := omega) [go_sem, -List.getD_eq_getElem?_getD, ite_yes, htp, ht, hc, hfl, hlt]
            first | refine AAt.of (by first | exact SubH.refl | exact SubH.app | exact SubH.both (by simp [subL])) ?_ | (refine ⟨?_, AAt.of (by first | exact SubH.refl | exact SubH.app | exact SubH.both (by simp [subL])) ?_⟩; · omega)
            refine AAny.two 5 8 10 (by kernel_rfl) (by kernel_rfl) (by kernel_rfl) ?_ ?_
            · simp -dsimp -implicitDefEqProofs (disch := omega) [go_sem, -List.getD_eq_getElem?_getD, ite_yes, htp, ht, hc, hfl, hlt]
              refine ACall.of (l18Dry_A n ps hN cp l (by omega) c src hsrc [id] (by simp) 1 k _ tp t (H.length + 2) hP.app hS.app (hids _)) ?_
              simp -dsimp -implicitDefEqProofs (disch := omega) [go_sem, -List.getD_eq_getElem?_getD, ite_yes, htp, ht, hc, hfl, hlt]
              first | refine AAt.of (by first | exact SubH.refl | exact SubH.app | exact SubH.both (by simp [subL])) ?_ | (refine ⟨?_, AAt.of (by first | exact SubH.refl | exact SubH.app | exact SubH.both (by simp [subL])) ?_⟩; · omega)
              refine AAny.takes (fuel := 4) (by kernel_rfl) (by kernel_rfl) [9] (by kernel_rfl) (by kernel_rfl) ?_
              simp -dsimp -implicitDefEqProofs (disch := omega) [go_sem, -List.getD_eq_getElem?_getD, ite_yes, htp, ht, hc, hfl, hlt]
              refine AAny.one 3 10 (by kernel_rfl) (by kernel_rfl) (by kernel_rfl) ?_
              simp -dsimp -implicitDefEqProofs (disch := omega) [go_sem, -List.getD_eq_getElem?_getD, ite_yes, htp, ht, hc, hfl, hlt]
              first | refine AAt.of (by first | exact SubH.refl | exact SubH.app | exact SubH.both (by simp [subL])) ?_ | (refine ⟨?_, AAt.of (by first | exact SubH.refl | exact SubH.app | exact SubH.both (by simp [subL])) ?_⟩; · omega)
              refine AAny.one 2 14 (by kernel_rfl) (by kernel_rfl) (by kernel_rfl) ?_
              simp -dsimp -implicitDefEqProofs (disch := omega) [go_sem, -List.getD_eq_getElem?_getD, ite_yes, htp, ht, hc, hfl, hlt]
              first | refine ACall.of (hB ▸ l18Dry_A n ps hN cp l (by omega) c src hsrc [] (by simp) 0 0 _ tp t (H.length + 4) hP.app hS.app (IdS.of (Sl.nth 4 rfl rfl))) ?_ | refine ACall.of (hB ▸ l18Dry_A n ps hN cp l (by omega) c src hsrc [] (by simp) 0 0 _ tp t (H.length + 3) hP.app hS.app (IdS.of (Sl.nth 3 rfl rfl))) ?_
              simp -dsimp -implicitDefEqProofs (disch := omega) [go_sem, -List.getD_eq_getElem?_getD, ite_yes, htp, ht, hc, hfl, hlt]
              first | refine AAt.of (by first | exact SubH.refl | exact SubH.app | exact SubH.both (by simp [subL])) ?_ | (refine ⟨?_, AAt.of (by first | exact SubH.refl | exact SubH.app | exact SubH.both (by simp [subL])) ?_⟩; · omega)
              refine AAny.takes (fuel := 0) (by kernel_rfl) (by kernel_rfl) [15, 16] (by kernel_rfl) (by kernel_rfl) ?_
              simp -dsimp -implicitDefEqProofs (disch := omega) [go_sem, -List.getD_eq_getElem?_getD, ite_yes, htp, ht, hc, hfl, hlt]
              refine AAny.done (by kernel_rfl) ?_
              simp -dsimp -implicitDefEqProofs (disch := omega) [go_sem, -List.getD_eq_getElem?_getD, ite_yes, htp, ht, hc, hfl, hlt]
              exact ⟨weakS_mk [some 0, some 1, some 2] rfl (by simp -dsimp -implicitDefEqProofs (disch := omega) [go_sem, -List.getD_eq_getElem?_getD, ite_yes]; exact ⟨wl_net htp, .inl ⟨rfl, nmE_flat _⟩, .inl ⟨rfl, nmE_flat _⟩⟩) (by simp -dsimp -implicitDefEqProofs (disch := omega) [go_sem, -List.getD_eq_getElem?_getD, ite_yes, htp, ht])⟩
            · simp -dsimp -implicitDefEqProofs (disch := omega) [go_sem, -List.getD_eq_getElem?_getD, ite_yes, htp, ht, hc, hfl, hlt]
              first | refine AAt.of (by first | exact SubH.refl | exact SubH.app | exact SubH.both (by simp [subL])) ?_ | (refine ⟨?_, AAt.of (by first | exact SubH.refl | exact SubH.app | exact SubH.both (by simp [subL])) ?_⟩; · omega)
              refine AAny.one 4 8 (by kernel_rfl) (by kernel_rfl) (by kernel_rfl) ?_
              simp -dsimp -implicitDefEqProofs (disch := omega) [go_sem, -List.getD_eq_getElem?_getD, ite_yes, htp, ht, hc, hfl, hlt]
              refine ACall.of (l18Dry_A n ps hN cp l (by omega) c src hsrc [id] (by simp) 1 k _ tp t (H.length + 2) hP.app hS.app (hids _)) ?_
              simp -dsimp -implicitDefEqProofs (disch := omega) [go_sem, -List.getD_eq_getElem?_getD, ite_yes, htp, ht, hc, hfl, hlt]
              first | refine AAt.of (by first | exact SubH.refl | exact SubH.app | exact SubH.both (by simp [subL])) ?_ | (refine ⟨?_, AAt.of (by first | exact SubH.refl | exact SubH.app | exact SubH.both (by simp [subL])) ?_⟩; · omega)
              refine AAny.takes (fuel := 3) (by kernel_rfl) (by kernel_rfl) [9] (by kernel_rfl) (by kernel_rfl) ?_
              simp -dsimp -implicitDefEqProofs (disch := omega) [go_sem, -List.getD_eq_getElem?_getD, ite_yes, htp, ht, hc, hfl, hlt]
              refine AAny.one 2 14 (by kernel_rfl) (by kernel_rfl) (by kernel_rfl) ?_
              simp -dsimp -implicitDefEqProofs (disch := omega) [go_sem, -List.getD_eq_getElem?_getD, ite_yes, htp, ht, hc, hfl, hlt]
              first | refine ACall.of (hB ▸ l18Dry_A n ps hN cp l (by omega) c src hsrc [] (by simp) 0 0 _ tp t (H.length + 4) hP.app hS.app (IdS.of (Sl.nth 4 rfl rfl))) ?_ | refine ACall.of (hB ▸ l18Dry_A n ps hN cp l (by omega) c src hsrc [] (by simp) 0 0 _ tp t (H.length + 3) hP.app hS.app (IdS.of (Sl.nth 3 rfl rfl))) ?_
              simp -dsimp -implicitDefEqProofs (disch := omega) [go_sem, -List.getD_eq_getElem?_getD, ite_yes, htp, ht, hc, hfl, hlt]
              first | refine AAt.of (by first | exact SubH.refl | exact SubH.app | exact SubH.both (by simp [subL])) ?_ | (refine ⟨?_, AAt.of (by first | exact SubH.refl | exact SubH.app | exact SubH.both (by simp [subL])) ?_⟩; · omega)
              refine AAny.takes (fuel := 0) (by kernel_rfl) (by kernel_rfl) [15, 16] (by kernel_rfl) (by kernel_rfl) ?_
              simp -dsimp -implicitDefEqProofs (disch := omega) [go_sem, -List.getD_eq_getElem?_getD, ite_yes, htp, ht, hc, hfl, hlt]
              refine AAny.done (by kernel_rfl) ?_
              simp -dsimp -implicitDefEqProofs (disch := omega) [go_sem, -List.getD_eq_getElem?_getD, ite_yes, htp, ht, hc, hfl, hlt]
              exact ⟨weakS_mk [some 0, some 1, some 2] rfl (by simp -dsimp -implicitDefEqProofs (disch := omega) [go_sem, -List.getD_eq_getElem?_getD, ite_yes]; exact ⟨wl_net htp, .inl ⟨rfl, nmE_flat _⟩, .inl ⟨rfl, nmE_flat _⟩⟩) (by simp -dsimp -implicitDefEqProofs (disch := omega) [go_sem, -List.getD_eq_getElem?_getD, ite_yes, htp, ht])⟩
          · simp -dsimp -implicitDefEqProofs (disch := omega) [go_sem, -List.getD_eq_getElem?_getD, ite_yes, htp, ht, hc, hfl, hlt]
            first | refine AAt.of (by first | exact SubH.refl | exact SubH.app | exact SubH.both (by simp [subL])) ?_ | (refine ⟨?_, AAt.of (by first | exact SubH.refl | exact SubH.app | exact SubH.both (by simp [subL])) ?_⟩; · omega)
            refine AAny.one 5 0 (by kernel_rfl) (by kernel_rfl) (by kernel_rfl) ?_
            simp -dsimp -implicitDefEqProofs (disch := omega) [go_sem, -List.getD_eq_getElem?_getD, ite_yes, htp, ht, hc, hfl, hlt]
            first | refine AAt.of (by first | exact SubH.refl | exact SubH.app | exact SubH.both (by simp [subL])) ?_ | (refine ⟨?_, AAt.of (by first | exact SubH.refl | exact SubH.app | exact SubH.both (by simp [subL])) ?_⟩; · omega)
            refine AAny.one 4 8 (by kernel_rfl) (by kernel_rfl) (by kernel_rfl) ?_
            simp -dsimp -implicitDefEqProofs (disch := omega) [go_sem, -List.getD_eq_getElem?_getD, ite_yes, htp, ht, hc, hfl, hlt]
            refine ACall.of (l18Dry_A n ps hN cp l (by omega) c src hsrc [id] (by simp) 1 k _ tp t (H.length + 2) hP.app hS.app (hids _)) ?_
            simp -dsimp -implicitDefEqProofs (disch := omega) [go_sem, -List.getD_eq_getElem?_getD, ite_yes, htp, ht, hc, hfl, hlt]
            first | refine AAt.of (by first | exact SubH.refl | exact SubH.app | exact SubH.both (by simp [subL])) ?_ | (refine ⟨?_, AAt.of (by first | exact SubH.refl | exact SubH.app | exact SubH.both (by simp [subL])) ?_⟩; · omega)
            refine AAny.takes (fuel := 3) (by kernel_rfl) (by kernel_rfl) [9] (by kernel_rfl) (by kernel_rfl) ?_
            simp -dsimp -implicitDefEqProofs (disch := omega) [go_sem, -List.getD_eq_getElem?_getD, ite_yes, htp, ht, hc, hfl, hlt]
            refine AAny.one 2 14 (by kernel_rfl) (by kernel_rfl) (by kernel_rfl) ?_
            simp -dsimp -implicitDefEqProofs (disch := omega) [go_sem, -List.getD_eq_getElem?_getD, ite_yes, htp, ht, hc, hfl, hlt]
            first | refine ACall.of (hB ▸ l18Dry_A n ps hN cp l (by omega) c src hsrc [] (by simp) 0 0 _ tp t (H.length + 4) hP.app hS.app (IdS.of (Sl.nth 4 rfl rfl))) ?_ | refine ACall.of (hB ▸ l18Dry_A n ps hN cp l (by omega) c src hsrc [] (by simp) 0 0 _ tp t (H.length + 3) hP.app hS.app (IdS.of (Sl.nth 3 rfl rfl))) ?_
            simp -dsimp -implicitDefEqProofs (disch := omega) [go_sem, -List.getD_eq_getElem?_getD, ite_yes, htp, ht, hc, hfl, hlt]
            first | refine AAt.of (by first | exact SubH.refl | exact SubH.app | exact SubH.both (by simp [subL])) ?_ | (refine ⟨?_, AAt.of (by first | exact SubH.refl | exact SubH.app | exact SubH.both (by simp [subL])) ?_⟩; · omega)
            refine AAny.takes (fuel := 0) (by kernel_rfl) (by kernel_rfl) [15, 16] (by kernel_rfl) (by kernel_rfl) ?_
            simp -dsimp -implicitDefEqProofs (disch := omega) [go_sem, -List.getD_eq_getElem?_getD, ite_yes, htp, ht, hc, hfl, hlt]
            refine AAny.done (by kernel_rfl) ?_
            simp -dsimp -implicitDefEqProofs (disch := omega) [go_sem, -List.getD_eq_getElem?_getD, ite_yes, htp, ht, hc, hfl, hlt]
            exact ⟨weakS_mk [some 0, some 1, some 2] rfl (by simp -dsimp -implicitDefEqProofs (disch := omega) [go_sem, -List.getD_eq_getElem?_getD, ite_yes]; exact ⟨wl_net htp, .inl ⟨rfl, nmE_flat _⟩, .inl ⟨rfl, nmE_flat _⟩⟩) (by simp -dsimp -implicitDefEqProofs (disch := omega) [go_sem, -List.getD_eq_getElem?_getD, ite_yes, htp, ht])⟩
      · simp -dsimp -implicitDefEqProofs (disch := omega) [go_sem, -List.getD_eq_getElem?_getD, ite_yes, hlt, hfl, c1, hfs]
        refine LoopEnd.of (k + 1) (by omega) (by omega) (weakS_mk [some 0, some 1, some 2] rfl ?_ (by simp -dsimp -implicitDefEqProofs (disch := omega) [go_sem, -List.getD_eq_getElem?_getD, ite_yes, htp, ht, e]))
        simp -dsimp -implicitDefEqProofs (disch := omega) [go_sem, -List.getD_eq_getElem?_getD, ite_yes]
        exact ⟨wl_net htp, .inl ⟨by rw [e], nmE_flat _⟩, .inl ⟨rfl, nmE_flat _⟩⟩
  · obtain rfl : k = (shutL l).length := by omega
    simp -dsimp -implicitDefEqProofs (disch := omega) [go_sem, -List.getD_eq_getElem?_getD, ite_yes, hlt]
    refine fin_list [some 1] rfl ?_ (by simp -dsimp -implicitDefEqProofs (disch := omega) [go_sem, -List.getD_eq_getElem?_getD, ite_yes, useL])
    simp -dsimp -implicitDefEqProofs (disch := omega) [go_sem, -List.getD_eq_getElem?_getD, ite_yes, useL]
    exact .inl ⟨rfl, nmE_flat _⟩
theorem useL_small {n : Int} {ps : List Pp} (l : List Vl) (src : Int) (h : (shutL l).length ≤ 6) : (useL n ps l src).length ≤ 1048577 := by
  have := useTo_length n ps l src (shutL l).length
  unfold useL
  omega
end Go.Proofs.Ytncblopbcnkinaa
/- More open valves, more that is wet: plain. -/
namespace Go.Proofs.Ytncblopbcnkinaa
open Go.Am
set_option linter.unusedVariables false
set_option linter.unusedSimpArgs false
/-- an end that is open has the same on both sides -/
def Closed (op : Pp → Int → Bool) (ps : List Pp) (R : List Bool) : Prop := ∀ i, i < ps.length → ∀ k, k < 2 → op (ps.getD i pp0) (endOfP (ps.getD i pp0) k) = true → R.getD (endOfP (ps.getD i pp0) k).toNat false = R.getD (9 + i) false
def Sub (R S : List Bool) : Prop := ∀ j, R.getD j false = true → S.getD j false = true
theorem Sub.trans {R S T : List Bool} (h : Sub R S) (k : Sub S T) : Sub R T := fun j hj => k j (h j hj)
theorem set_sub {s R : List Bool} {a : Nat} (h : Sub s R) (ha : R.getD a false = true) : Sub (s.set a true) R := fun j hj => by
  by_cases e : a = j
  · subst e; exact ha
  · rw [getD_set_ne e] at hj; exact h j hj
theorem sub_set {s : List Bool} {a : Nat} : Sub s (s.set a true) := fun j hj => by
  by_cases e : a = j
  · subst e
    have hlt : a < s.length := by
      rcases Nat.lt_or_ge a s.length with h | h
      · exact h
      · rw [List.getD_eq_getElem?_getD, List.getElem?_eq_none h] at hj; cases hj
    exact getD_set_eq hlt true
  · rw [getD_set_ne e]; exact hj
theorem stepAt_false {o : Bool} {s : St} {a b : Nat} (h : (stepAt o s a b).2 = false) : stepAt o s a b = s ∧ (o = true → s.1.getD a false = s.1.getD b false) := by
  unfold stepAt at h ⊢
  split at h
  · cases h
  · rename_i hc
    rw [if_neg hc]
    refine ⟨rfl, fun ho => ?_⟩
    rw [ho, Bool.and_true] at hc
    simpa using hc
theorem inP_false {op : Pp → Int → Bool} {s : St} {i : Nat} {p : Pp} : ∀ k, (inP op s i p k).2 = false → inP op s i p k = s ∧ ∀ j, j < k → op p (endOfP p j) = true → s.1.getD (endOfP p j).toNat false = s.1.getD (9 + i) false
  | 0, _ => ⟨rfl, fun j hj => absurd hj (Nat.not_lt_zero _)⟩
  | k + 1, h => by
    obtain ⟨h1, h2⟩ := stepAt_false (s := inP op s i p k) h
    have h3 : inP op s i p (k + 1) = inP op s i p k := h1
    rw [h3] at h
    obtain ⟨h4, h5⟩ := inP_false k h
    refine ⟨h3.trans h4, fun j hj ho => ?_⟩
    rcases Nat.lt_or_ge j k with hlt | hge
    · exact h5 j hlt ho
    · obtain rfl : j = k := by omega
      rw [h4] at h2
      exact h2 ho
theorem psTo_false {op : Pp → Int → Bool} {ps : List Pp} {W : List Bool} : ∀ k, (psTo op ps W k).2 = false → psTo op ps W k = (W, false) ∧ ∀ i, i < k → ∀ j, j < 2 → op (ps.getD i pp0) (endOfP (ps.getD i pp0) j) = true → W.getD (endOfP (ps.getD i pp0) j).toNat false = W.getD (9 + i) false
  | 0, _ => ⟨rfl, fun j hj => absurd hj (Nat.not_lt_zero _)⟩
  | k + 1, h => by
    obtain ⟨h1, h2⟩ := inP_false (s := psTo op ps W k) 2 h
    have h3 : psTo op ps W (k + 1) = psTo op ps W k := h1
    rw [h3] at h
    obtain ⟨h4, h5⟩ := psTo_false k h
    refine ⟨h3.trans h4, fun i hi => ?_⟩
    rcases Nat.lt_or_ge i k with hlt | hge
    · exact h5 i hlt
    · obtain rfl : i = k := by omega
      rw [h4] at h2
      exact h2
theorem spr_closed {op : Pp → Int → Bool} {ps : List Pp} {W R : List Bool} (h : Spr op ps W R) : Closed op ps R := by
  induction h with
  | done h =>
    obtain ⟨h1, h2⟩ := psTo_false ps.length h
    have : (pass op ps _).1 = _ := congrArg Prod.fst h1
    rw [this]
    exact h2
  | more h k ih => exact ih
theorem stepAt_sub {o : Bool} {s : St} {a b : Nat} {R : List Bool} (h : Sub s.1 R) (ho : o = true → R.getD a false = R.getD b false) : Sub (stepAt o s a b).1 R := by
  unfold stepAt
  split
  · rename_i hc
    simp only [Bool.and_eq_true, bne_iff_ne] at hc
    have hab := ho hc.2
    have : R.getD a false = true ∧ R.getD b false = true := by
      cases h1 : s.1.getD a false
      · have : s.1.getD b false = true := by
          cases h2 : s.1.getD b false
          · exact absurd (h1.trans h2.symm) hc.1
          · rfl
        have := h _ this
        exact ⟨hab.trans this, this⟩
      · have := h _ h1
        exact ⟨this, hab.symm.trans this⟩
    exact set_sub (set_sub h this.1) this.2
  · exact h
theorem sub_stepAt {o : Bool} {s : St} {a b : Nat} : Sub s.1 (stepAt o s a b).1 := by
  unfold stepAt
  split
  · exact sub_set.trans sub_set
  · exact fun _ h => h
theorem inP_sub {op op' : Pp → Int → Bool} {s : St} {i : Nat} {p : Pp} {R : List Bool} (h : Sub s.1 R) (hR : ∀ j, j < 2 → op p (endOfP p j) = true → R.getD (endOfP p j).toNat false = R.getD (9 + i) false) : ∀ k, k ≤ 2 → Sub (inP op s i p k).1 R
  | 0, _ => h
  | k + 1, hk => stepAt_sub (inP_sub (op' := op') h hR k (by omega)) (hR k (by omega))
theorem sub_inP {op : Pp → Int → Bool} {s : St} {i : Nat} {p : Pp} : ∀ k, Sub s.1 (inP op s i p k).1
  | 0 => fun _ h => h
  | k + 1 => (sub_inP k).trans sub_stepAt
theorem psTo_sub {op op' : Pp → Int → Bool} {ps : List Pp} {W R : List Bool} (h : Sub W R) (hR : Closed op' ps R) (hop : ∀ p nd, op p nd = true → op' p nd = true) : ∀ k, k ≤ ps.length → Sub (psTo op ps W k).1 R
  | 0, _ => h
  | k + 1, hk => inP_sub (op' := op') (psTo_sub h hR hop k (by omega)) (fun j hj ho => hR k (by omega) j hj (hop _ _ ho)) 2 (Nat.le_refl _)
theorem sub_psTo {op : Pp → Int → Bool} {ps : List Pp} {W : List Bool} : ∀ k, Sub W (psTo op ps W k).1
  | 0 => fun _ h => h
  | k + 1 => (sub_psTo k).trans (sub_inP 2)
theorem spr_sub {op op' : Pp → Int → Bool} {ps : List Pp} {W S R : List Bool} (h : Spr op ps W S) (hR : Closed op' ps R) (hop : ∀ p nd, op p nd = true → op' p nd = true) (hW : Sub W R) : Sub S R := by
  induction h with
  | done h => exact psTo_sub hW hR hop _ (Nat.le_refl _)
  | more h k ih => exact ih (psTo_sub hW hR hop _ (Nat.le_refl _))
theorem sub_spr {op : Pp → Int → Bool} {ps : List Pp} {W R : List Bool} (h : Spr op ps W R) : Sub W R := by
  induction h with
  | done h => exact sub_psTo _
  | more h k ih => exact (sub_psTo _).trans ih
theorem reach_mono {n : Int} {ps : List Pp} (h : NetAt n ps) {op op' : Pp → Int → Bool} (hop : ∀ p nd, op p nd = true → op' p nd = true) (src : Int) : Sub (reach op ps src) (reach op' ps src) :=
  spr_sub (spr_reach h op src) (spr_closed (spr_reach h op' src)) hop (sub_spr (spr_reach h op' src))
theorem openB_mono {l : List Vl} {a b : List Int} (h : ∀ x, hasI a x = true → hasI b x = true) (p : Pp) (nd : Int) (ho : openB (opL l a) p nd = true) : openB (opL l b) p nd = true := by
  have h1 : ∀ i, i < (opL l a).length → shutAt p.1 nd ((opL l a).getD i vl0) = false := fun i hi => by
    cases e : shutAt p.1 nd ((opL l a).getD i vl0)
    · rfl
    · have := ix_some vl0 (shutAt p.1 nd) (opL l a) hi e
      unfold openB at ho
      rw [decide_eq_true this] at ho
      cases ho
  have h2 := ix_none vl0 (shutAt p.1 nd) (opL l b) fun i hi => by
    rw [opL_length] at hi
    have h3 := h1 i (by rw [opL_length]; exact hi)
    rw [opL_getD _ _ hi] at h3 ⊢
    generalize l.getD i vl0 = v at *
    unfold shutAt opV at *
    simp only at h3 ⊢
    cases e : hasI a v.1
    · rw [e] at h3
      revert h3
      cases decide (v.2.1 = p.1) <;> cases decide (v.2.2.1 = nd) <;> cases v.2.2.2 <;> simp
    · rw [h _ e]
      simp
  unfold openB
  rw [h2]
  rfl
theorem wet_mono {n : Int} {ps : List Pp} (hN : NetAt n ps) {l : List Vl} {a b : List Int} (h : ∀ x, hasI a x = true → hasI b x = true) (src : Int) : Sub (wetR ps (opL l a) src) (wetR ps (opL l b) src) :=
  reach_mono hN (openB_mono h) src
theorem hasI_take {a : List Int} {i j : Nat} (hij : i ≤ j) (x : Int) (h : hasI (a.take i) x = true) : hasI (a.take j) x = true := by
  unfold hasI at *
  rw [decide_eq_true_eq] at *
  rw [show a.take i = (a.take j).take i by rw [List.take_take, Nat.min_eq_left hij]] at h
  exact List.mem_of_mem_take h
theorem dry_split {R S : List Bool} (h : Sub R S) : ∀ k, (dryN R k).length = (nwTo R S k).length + (dryN S k).length
  | 0 => rfl
  | k + 1 => by
    have ih := dry_split h k
    have hk := h (k + 1)
    rw [dryN, nwTo, dryN]
    cases hr : R.getD (k + 1) false <;> cases hs : S.getD (k + 1) false
    · simp; omega
    · simp; omega
    · rw [hk hr] at hs; cases hs
    · simp; omega
theorem mem_nwTo {R S : List Bool} {x : Int} : ∀ {k}, x ∈ nwTo R S k → ∃ j, x = ((j : Nat) : Int) ∧ 1 ≤ j ∧ j ≤ k ∧ R.getD j false = false ∧ S.getD j false = true
  | 0, h => by cases h
  | k + 1, h => by
    rw [nwTo] at h
    split at h
    · rename_i hc
      rcases List.mem_append.1 h with h | h
      · obtain ⟨j, h1, h2, h3, h4⟩ := mem_nwTo h
        exact ⟨j, h1, h2, by omega, h4⟩
      · rw [List.mem_singleton] at h
        simp only [Bool.and_eq_true, Bool.not_eq_true'] at hc
        exact ⟨k + 1, h, by omega, Nat.le_refl _, hc.2, hc.1⟩
    · obtain ⟨j, h1, h2, h3, h4⟩ := mem_nwTo h
      exact ⟨j, h1, h2, by omega, h4⟩
/-- how many of the first k steps' nodes there are -/
noncomputable def nwSum (n : Int) (ps : List Pp) (l : List Vl) (src : Int) (a : List Int) : Nat → Nat
  | 0 => 0
  | k + 1 => nwSum n ps l src a k + (nwF n ps l src a k).length
theorem nw_count {n : Int} {ps : List Pp} (hN : NetAt n ps) (l : List Vl) (src : Int) (a : List Int) : ∀ k, k ≤ a.length → nwSum n ps l src a k + (dryO n ps l src (a.take k)).length = (dryO n ps l src []).length
  | 0, _ => by simp [nwSum]
  | k + 1, hk => by
    have ih := nw_count hN l src a k (by omega)
    have := dry_split (wet_mono hN (l := l) (a := a.take k) (b := a.take (k + 1)) (fun x => hasI_take (by omega) x) src) n.toNat
    rw [nwSum]
    unfold nwF dryO at *
    omega
theorem nw_in {n : Int} {ps : List Pp} (hN : NetAt n ps) {l : List Vl} {src : Int} {a : List Int} {k : Nat} (hk : k < a.length) {x : Int} (hx : x ∈ nwF n ps l src a k) : x ∈ dryO n ps l src [] ∧ x ∉ dryO n ps l src a := by
  obtain ⟨j, rfl, j1, j2, j3, j4⟩ := mem_nwTo hx
  constructor
  · unfold dryO
    rw [mem_dryN]
    refine ⟨j1, j2, ?_⟩
    cases e : (wetR ps (opL l []) src).getD j false
    · rfl
    · have := wet_mono hN (l := l) (a := []) (b := a.take k) (fun x h => by simp [hasI] at h) src j e
      rw [this] at j3; cases j3
  · unfold dryO
    rw [mem_dryN]
    rintro ⟨_, _, h⟩
    have := wet_mono hN (l := l) (a := a.take (k + 1)) (b := a) (fun x h => by
      have := hasI_take (a := a) (j := a.length) (by omega) x h
      rwa [List.take_length] at this) src j j4
    rw [this] at h; cases h
theorem dryO_perm {n : Int} {ps : List Pp} {l : List Vl} {src : Int} {a b : List Int} (h : a.Perm b) : dryO n ps l src a = dryO n ps l src b := by
  unfold dryO; rw [opL_perm l h]
/-- a useful valve is shut, and makes fewer nodes dry -/
theorem useTo_mem {n : Int} {ps : List Pp} {l : List Vl} {src : Int} {x : Int} : ∀ {k}, k ≤ (shutL l).length → x ∈ useTo n ps l src k → hasI (shutL l) x = true ∧ (dryO n ps l src [x]).length < (dryO n ps l src []).length
  | 0, _, h => by cases h
  | k + 1, hk, h => by
    rw [useTo] at h
    split at h
    · rename_i hc
      rcases List.mem_append.1 h with h | h
      · exact useTo_mem (by omega) h
      · rw [List.mem_singleton] at h
        subst h
        refine ⟨decide_eq_true ?_, hc⟩
        rw [List.getD_eq_getElem?_getD, List.getElem?_eq_getElem (by omega)]
        exact List.getElem_mem _
    · exact useTo_mem (by omega) h
/-- turning one valve on -/
theorem turn_opL {n : Int} {ps : List Pp} {l : List Vl} (hg : goodV n ps l = true) {q : Nat} (hq : q < l.length) {id : Int} (e : (l.getD q vl0).1 = id) : l.set q (id, (l.getD q vl0).2.1, (l.getD q vl0).2.2.1, false) = opL l [id] := by
  apply List.ext_getElem?
  intro i
  rcases Nat.lt_or_ge i l.length with hi | hi
  · have h1 : (opL l [id])[i]? = some ((opL l [id]).getD i vl0) := by
      rw [List.getD_eq_getElem?_getD, List.getElem?_eq_getElem (by rw [opL_length]; exact hi)]; rfl
    rw [h1, opL_getD _ _ hi]
    by_cases hqi : q = i
    · subst hqi
      rw [List.getElem?_set_self hi]
      unfold opV hasI
      rw [e]
      simp
    · rw [List.getElem?_set_ne hqi, List.getElem?_eq_getElem hi]
      have g : l.getD i vl0 = l[i] := by rw [List.getD_eq_getElem?_getD, List.getElem?_eq_getElem hi]; rfl
      have hne : (l.getD i vl0).1 ≠ id := by
        rw [← e]
        rcases Nat.lt_or_ge i q with h | h
        · have := vl_asc hg i (q - i - 1) (by omega)
          rw [show i + (q - i - 1) + 1 = q by omega] at this
          omega
        · have := vl_asc hg q (i - q - 1) (by omega)
          rw [show q + (i - q - 1) + 1 = i by omega] at this
          omega
      unfold opV hasI
      rw [g] at hne ⊢
      simp [hne]
  · rw [List.getElem?_eq_none (by simpa using hi), List.getElem?_eq_none (by rw [opL_length]; exact hi)]
end Go.Proofs.Ytncblopbcnkinaa
/- IsGentle: both sides, and the law. -/
namespace Go.Proofs.Ytncblopbcnkinaa
open Go.Am
set_option linter.unusedVariables false
set_option linter.unusedSimpArgs false
set_option maxRecDepth 100000
set_option maxHeartbeats 4000000

theorem openedT_A (l : List Vl) (hl : l.length ≤ 1048577) (c : Nat) (a : List Int) (k : Nat) (hk : k ≤ a.length) (ha : a.length ≤ 1048577) (d : Nat) (H : Heap) (t u : Nat) (hS : Sl vlE H t l) (hU : Sl nmE H u a) :
    AFunC Try.prog 67 [.slice (some ⟨t, 0, none⟩) l.length c, .slice (some ⟨u, 0, none⟩) k d] H (.slice (some ⟨H.length, 0, none⟩) l.length 0) (H ++ [some ⟨(opL l (a.take k)).flatMap vlE, true, 92, 4⟩]) := by
  have := opened_A l hl c (a.take k) (by rw [List.length_take]; omega) d 0 H t u hS (IdS.of (hU.take k))
  rwa [List.length_take_of_le hk] at this
theorem wateredO_A (n : Int) (ps : List Pp) (cp : Nat) (l : List Vl) (hg : goodV n ps l = true) (c : Nat) (src : Int) (hsrc : 1 ≤ src ∧ src ≤ n) (ids : List Int) (H : Heap) (tp tv : Nat) (hP : Sl ppE H tp ps) (hV : Sl vlE H tv (opL l ids)) :
    AFunC Try.prog 66 [netV n tp ps.length cp, .slice (some ⟨tv, 0, none⟩) l.length c, .int .i64 src] H (.pointer (some ⟨H.length, 0, none⟩)) (H ++ [some ⟨(wetR ps (opL l ids) src).map .bool, true, 124, 1⟩]) := by
  have := watered_A n ps cp (opL l ids) (goodV_opL hg ids) c src hsrc H tp tv hP hV
  rwa [opL_length] at this
end Go.Proofs.Ytncblopbcnkinaa
