/- slices.Sort on at most twelve numbers. -/
import Derived.Test.YtamkdgjagjpmlaaStill
namespace Go.Proofs.Ytamkdgjagjpmlaa
open Go.Am
set_option linter.unusedVariables false
set_option linter.unusedSimpArgs false
set_option maxRecDepth 100000
set_option maxHeartbeats 4000000

abbrev Srt (l : List Int) : Prop := l.Pairwise (· ≤ ·)
theorem srt_perm_eq : ∀ {a b : List Int}, a.Perm b → Srt a → Srt b → a = b
  | [], b, h, _, _ => (List.nil_perm.1 h).symm ▸ rfl
  | x :: a, [], h, _, _ => absurd (List.perm_nil.1 h) (by simp)
  | x :: a, y :: b, h, ha, hb => by
    have ha' := List.pairwise_cons.1 ha
    have hb' := List.pairwise_cons.1 hb
    have hxy : x = y := by
      have hx : x ∈ y :: b := h.mem_iff.1 (by simp)
      have hy : y ∈ x :: a := h.mem_iff.2 (by simp)
      rcases List.mem_cons.1 hx with e | hx
      · exact e
      · rcases List.mem_cons.1 hy with e | hy
        · exact e.symm
        · have := hb'.1 x hx
          have := ha'.1 y hy
          omega
    subst hxy
    rw [srt_perm_eq (List.Perm.cons_inv h) ha'.2 hb'.2]
/-- within the insertion: x stands behind A and before B -/
structure InS (l : List Int) (i : Nat) (A : List Int) (x : Int) (B R : List Int) : Prop where
  perm : (A ++ x :: (B ++ R)).Perm l
  srt : Srt (A ++ B)
  lt : ∀ b ∈ B, x < b
  len : A.length + B.length = i
theorem InS.swap {l : List Int} {i : Nat} {A : List Int} {y x : Int} {B R : List Int} (h : InS l i (A ++ [y]) x B R) (hxy : x < y) : InS l i A x (y :: B) R where
  perm := by
    refine List.Perm.trans ?_ h.perm
    rw [List.append_assoc]
    exact List.Perm.append_left A (List.Perm.swap y x (B ++ R))
  srt := by have := h.srt; rwa [List.append_assoc] at this
  lt := fun b hb => by
    rcases List.mem_cons.1 hb with rfl | hb
    · exact hxy
    · exact h.lt b hb
  len := by have := h.len; simp at this ⊢; omega
theorem InS.done {l : List Int} {i : Nat} {A : List Int} {x : Int} {B R : List Int} (h : InS l i A x B R) (hx : ∀ a ∈ A, a ≤ x) : Srt (A ++ x :: B) := by
  have h1 := List.pairwise_append.1 h.srt
  refine List.pairwise_append.2 ⟨h1.1, List.pairwise_cons.2 ⟨fun b hb => by have := h.lt b hb; omega, h1.2.1⟩, fun a ha b hb => ?_⟩
  rcases List.mem_cons.1 hb with rfl | hb
  · exact hx a ha
  · exact h1.2.2 a ha b hb
theorem nm_at (A T : List Int) (y : Int) : List.take 1 (List.drop A.length ((A ++ y :: T).flatMap nmE)) = [.int .i64 y] := by
  have := nm_cell1 (A ++ y :: T) (q := A.length) (by simp)
  simpa using this
theorem nm_put (A T : List Int) (y z : Int) : ((A ++ y :: T).flatMap nmE).set A.length (.int .i64 z) = (A ++ z :: T).flatMap nmE := by
  have := set_cell (f := nmE) (s := 1) (l := A ++ y :: T) (i := A.length) (fun _ => rfl) z 0 (by simp) (j := 0) (by omega) (v := .int .i64 z) rfl
  rw [Nat.mul_one, Nat.add_zero] at this
  rw [this]; simp
theorem isNaN_A (x : Int) (H : Heap) : AFunC Try.prog 90 [.int .i64 x] H (.bool false) H := by
  refine AFunC.of_body Try.func90 (by kernel_rfl) rfl (by kernel_rfl) (by simp [Try.ntmps90]) ?_
  simp -dsimp -implicitDefEqProofs (disch := omega) [go_sem, -List.getD_eq_getElem?_getD, ite_yes]
  exact fin_flat0 rfl rfl
theorem less_A (x y : Int) (H : Heap) : AFunC Try.prog 77 [.int .i64 x, .int .i64 y] H (.bool (decide (x < y))) H := by
  refine AFunC.of_body Try.func77 (by kernel_rfl) rfl (by kernel_rfl) (by simp [Try.ntmps77]) ?_
  simp -dsimp -implicitDefEqProofs (disch := omega) [go_sem, -List.getD_eq_getElem?_getD, ite_yes]
  refine ACall.of (isNaN_A _ _) ?_
  simp -dsimp -implicitDefEqProofs (disch := omega) [go_sem, -List.getD_eq_getElem?_getD, ite_yes]
  exact fin_flat0 rfl rfl
/-- what sorting hands out -/
def SortOut (H : Heap) (t e : Nat) (l : List Int) (v : Value) (G : Heap) : Prop :=
  ∃ m : List Int, v = .tuple #[] ∧ m.Perm l ∧ Srt m ∧ G = H.set t (some ⟨m.flatMap nmE, true, e, 1⟩)
theorem insertionSort_R (l : List Int) (hl : l.length ≤ 1048577) (c e : Nat) (H : Heap) (t : Nat) (hb : H.get t = some ⟨l.flatMap nmE, true, e, 1⟩) :
    AFunR Try.prog 71 [.slice (some ⟨t, 0, none⟩) l.length c, .int .i64 0, .int .i64 l.length] H (SortOut H t e l) := by
  refine AFunR.of_body Try.func71 (by kernel_rfl) rfl (by kernel_rfl) (by simp [Try.ntmps71]) ?_
  have ht := Heap.get_lt hb
  simp -dsimp -implicitDefEqProofs (disch := omega) [go_sem, -List.getD_eq_getElem?_getD, ite_yes, ht]
  refine ALoop.intro (ι := List Int × Nat) (fun q => q.1.Perm l ∧ Srt (q.1.take q.2) ∧ 1 ≤ q.2 ∧ q.2 ≤ l.length + 1) (fun q => [(0, .slice (some ⟨t, 0, none⟩) l.length c), (1, .int .i64 0), (2, .int .i64 l.length), (6, .int .i64 q.2)])
    (fun q => H.set t (some ⟨q.1.flatMap nmE, true, e, 1⟩)) (fun q => l.length + 1 - q.2) (l, 1) ⟨List.Perm.refl _, ?_, by omega, by omega⟩ ?_ ?_
  · cases l with
    | nil => exact List.Pairwise.nil
    | cons a l => simp
  · exact weakS_set ht (nmE_flat _) rfl (Heap.set_self hb).symm (by simp -dsimp -implicitDefEqProofs (disch := omega) [go_sem, -List.getD_eq_getElem?_getD, ite_yes, ht])
  rintro ⟨m, i⟩ ⟨hm, hs, hi1, hi2⟩
  simp only at hm hs hi1 hi2 ⊢
  have gs := fun x => Heap.get_set_self (H := H) ht (x := x)
  have hml : m.length = l.length := hm.length_eq
  by_cases hlt : i < l.length
  rotate_left
  · have hlt' : ¬ (i : Int) < (l.length : Int) := by omega
    rw [List.take_of_length_le (by omega)] at hs
    simp -dsimp -implicitDefEqProofs (disch := omega) [go_sem, -List.getD_eq_getElem?_getD, ite_yes, hlt', hlt]
    exact EndR.of (.tuple #[]) (H.set t (some ⟨m.flatMap nmE, true, e, 1⟩)) ⟨m, rfl, hm, hs, rfl⟩ (fin_set ht (nmE_flat m) rfl rfl rfl rfl)
  have hlt' : (i : Int) < (l.length : Int) := by omega
  simp -dsimp -implicitDefEqProofs (disch := omega) [go_sem, -List.getD_eq_getElem?_getD, ite_yes, hlt', hlt, ht]
  have hsplit : m = m.take i ++ m.getD i 0 :: ([] ++ m.drop (i + 1)) := by
    rw [List.nil_append]
    have : m.getD i 0 = m[i]'(by omega) := by rw [List.getD_eq_getElem?_getD, List.getElem?_eq_getElem (by omega)]; rfl
    rw [this, ← List.drop_eq_getElem_cons, List.take_append_drop]
  refine ALoop.intro (ι := List Int × Int × List Int × List Int) (fun q => InS l i q.1 q.2.1 q.2.2.1 q.2.2.2) (fun q => [(0, .slice (some ⟨t, 0, none⟩) l.length c), (1, .int .i64 0), (2, .int .i64 l.length), (6, .int .i64 i), (7, .int .i64 q.1.length)])
    (fun q => H.set t (some ⟨(q.1 ++ q.2.1 :: (q.2.2.1 ++ q.2.2.2)).flatMap nmE, true, e, 1⟩)) (fun q => q.1.length) (m.take i, m.getD i 0, [], m.drop (i + 1)) ?_ ?_ ?_
  · exact ⟨by rw [← hsplit]; exact hm, by simpa using hs, fun b hb => absurd hb (by simp), by simp; omega⟩
  · exact weakS_set ht (nmE_flat _) rfl (by rw [← hsplit]) (by simp -dsimp -implicitDefEqProofs (disch := omega) [go_sem, -List.getD_eq_getElem?_getD, ite_yes, ht])
  rintro ⟨A, x, B, R⟩ hI
  simp only at hI ⊢
  have hbl := hI.len
  have hpl := hI.perm.length_eq
  simp only [List.length_append, List.length_cons] at hpl
  have hend : (∀ a ∈ A, a ≤ x) → (A ++ x :: (B ++ R)).Perm l ∧ Srt ((A ++ x :: (B ++ R)).take (i + 1)) ∧ 1 ≤ i + 1 ∧ i + 1 ≤ l.length + 1 := fun hx => by
    refine ⟨hI.perm, ?_, by omega, by omega⟩
    have e9 : A ++ x :: (B ++ R) = (A ++ x :: B) ++ R := by simp
    rw [e9, List.take_left' (by simp; omega)]
    exact hI.done hx
  rcases List.eq_nil_or_concat A with rfl | ⟨A', y, rfl⟩
  · obtain ⟨M, hM⟩ : ∃ M, [] ++ x :: (B ++ R) = M := ⟨_, rfl⟩
    rw [hM] at hend ⊢
    simp -dsimp -implicitDefEqProofs (disch := omega) [go_sem, -List.getD_eq_getElem?_getD, ite_yes, ht]
    refine ADraw.quiet (by kernel_rfl) (by kernel_rfl) (by kernel_rfl) ?_
    simp -dsimp -implicitDefEqProofs (disch := omega) [go_sem, -List.getD_eq_getElem?_getD, ite_yes, ht]
    exact LoopEnd.of (M, i + 1) (hend fun a ha => absurd ha (by simp)) (by omega) (weakS_set ht (nmE_flat _) rfl rfl (by simp -dsimp -implicitDefEqProofs (disch := omega) [go_sem, -List.getD_eq_getElem?_getD, ite_yes, ht]))
  rw [List.concat_eq_append] at *
  have hl1 : (A' ++ [y]).length = A'.length + 1 := by simp
  have e1 : (A' ++ [y]) ++ x :: (B ++ R) = A' ++ y :: x :: (B ++ R) := by simp
  have hfl : ((A' ++ y :: x :: (B ++ R)).flatMap nmE).length = l.length := by rw [nmE_length, ← hpl]; simp; omega
  have hjl : A'.length + 1 < l.length := by rw [hl1] at hbl hpl; omega
  have hj0 : A'.length < l.length := by omega
  have ca : aCells (H.set t (some ⟨(A' ++ y :: x :: (B ++ R)).flatMap nmE, true, e, 1⟩)) ⟨t, A'.length + 1, none⟩ 1 = some [.int .i64 x] := by
    have := nm_at (A' ++ [y]) (B ++ R) x
    rw [e1, hl1] at this
    rw [aCells_eq, gs, aC1]
    simp only [hfl]
    rw [if_pos (by omega), this]
  have cb : aCells (H.set t (some ⟨(A' ++ y :: x :: (B ++ R)).flatMap nmE, true, e, 1⟩)) ⟨t, A'.length, none⟩ 1 = some [.int .i64 y] := by
    have := nm_at A' (x :: (B ++ R)) y
    rw [aCells_eq, gs, aC1]
    simp only [hfl]
    rw [if_pos (by omega), this]
  have s1 : ((A' ++ y :: x :: (B ++ R)).flatMap nmE).set (A'.length + 1) (.int .i64 y) = (A' ++ y :: y :: (B ++ R)).flatMap nmE := by
    have := nm_put (A' ++ [y]) (B ++ R) x y
    rw [hl1] at this
    simpa using this
  have s2 : ((A' ++ y :: y :: (B ++ R)).flatMap nmE).set A'.length (.int .i64 x) = (A' ++ x :: y :: (B ++ R)).flatMap nmE := nm_put A' (y :: (B ++ R)) y x
  have hfl2 : ((A' ++ y :: y :: (B ++ R)).flatMap nmE).length = l.length := by rw [nmE_length, ← hpl]; simp; omega
  rw [e1, hl1]
  rw [e1] at hend
  have hM2 := (hI.swap (A := A') (y := y))
  obtain ⟨M, hM⟩ : ∃ M, A' ++ y :: x :: (B ++ R) = M := ⟨_, rfl⟩
  obtain ⟨M1, hM1⟩ : ∃ M, A' ++ y :: y :: (B ++ R) = M := ⟨_, rfl⟩
  obtain ⟨M2, hM3⟩ : ∃ M, A' ++ x :: y :: (B ++ R) = M := ⟨_, rfl⟩
  rw [hM] at hend hfl ca cb s1 ⊢
  rw [hM1] at s1 s2 hfl2
  rw [hM3] at s2
  have hj1 : (((A'.length + 1 : Nat) : Int) - 1).toNat = A'.length := by omega
  simp -dsimp -implicitDefEqProofs (disch := omega) [go_sem, -List.getD_eq_getElem?_getD, ite_yes, ht, hjl, hj0]
  refine ADraw.quiet (by kernel_rfl) (by kernel_rfl) (by kernel_rfl) ?_
  simp -dsimp -implicitDefEqProofs (disch := omega) [go_sem, -List.getD_eq_getElem?_getD, ite_yes, ht, hjl, hj0, ca, cb]
  refine ACallQ.of (less_A x y _) rfl ?_
  by_cases hxy : x < y
  · simp -dsimp -implicitDefEqProofs (disch := omega) [go_sem, -List.getD_eq_getElem?_getD, ite_yes, hxy, ht]
    refine ADraw.any [] (by kernel_rfl) (SubH.nil) ?_
    refine AAny.takes (fuel := 6) (by kernel_rfl) (by kernel_rfl) [0, 1, 2, 3, 4, 5, 6, 7, 8, 10, 11, 12] (by kernel_rfl) (by kernel_rfl) ?_
    simp -dsimp -implicitDefEqProofs (disch := omega) [go_sem, -List.getD_eq_getElem?_getD, ite_yes, ht, hjl, hj0, ca, cb, gs, hfl, hfl2, s1, s2, List.set_set]
    refine AAny.two 5 9 13 (by kernel_rfl) (by kernel_rfl) (by kernel_rfl) ?_ ?_
    · simp -dsimp -implicitDefEqProofs (disch := omega) [go_sem, -List.getD_eq_getElem?_getD, ite_yes, ht, hjl, hj0, ca, cb, gs, hfl, hfl2, s1, s2, List.set_set]
      first | refine AAt.of (SubH.nil) ?_ | (refine ⟨?_, AAt.of (SubH.nil) ?_⟩; · omega)
      refine AAny.one 4 13 (by kernel_rfl) (by kernel_rfl) (by kernel_rfl) ?_
      simp -dsimp -implicitDefEqProofs (disch := omega) [go_sem, -List.getD_eq_getElem?_getD, ite_yes, ht, hjl, hj0, ca, cb, gs, hfl, hfl2, s1, s2, List.set_set]
      first | refine AAt.of (SubH.nil) ?_ | (refine ⟨?_, AAt.of (SubH.nil) ?_⟩; · omega)
      refine AAny.takes (fuel := 3) (by kernel_rfl) (by kernel_rfl) [14] (by kernel_rfl) (by kernel_rfl) ?_
      simp -dsimp -implicitDefEqProofs (disch := omega) [go_sem, -List.getD_eq_getElem?_getD, ite_yes, ht, hjl, hj0, ca, cb, gs, hfl, hfl2, s1, s2, List.set_set]
      refine AAny.one 2 15 (by kernel_rfl) (by kernel_rfl) (by kernel_rfl) ?_
      simp -dsimp -implicitDefEqProofs (disch := omega) [go_sem, -List.getD_eq_getElem?_getD, ite_yes, ht, hjl, hj0, ca, cb, gs, hfl, hfl2, s1, s2, List.set_set]
      first | refine AAt.of (SubH.nil) ?_ | (refine ⟨?_, AAt.of (SubH.nil) ?_⟩; · omega)
      refine AAny.takes (fuel := 1) (by kernel_rfl) (by kernel_rfl) [16] (by kernel_rfl) (by kernel_rfl) ?_
      simp -dsimp -implicitDefEqProofs (disch := omega) [go_sem, -List.getD_eq_getElem?_getD, ite_yes, ht, hjl, hj0, ca, cb, gs, hfl, hfl2, s1, s2, List.set_set]
      refine AAny.one 0 17 (by kernel_rfl) (by kernel_rfl) (by kernel_rfl) ?_
      simp -dsimp -implicitDefEqProofs (disch := omega) [go_sem, -List.getD_eq_getElem?_getD, ite_yes, ht, hjl, hj0, ca, cb, gs, hfl, hfl2, s1, s2, List.set_set]
      first | refine AAt.of (SubH.nil) ?_ | (refine ⟨?_, AAt.of (SubH.nil) ?_⟩; · omega)
      refine AAny.done (by kernel_rfl) ?_
      simp -dsimp -implicitDefEqProofs (disch := omega) [go_sem, -List.getD_eq_getElem?_getD, ite_yes, ht, hjl, hj0, ca, cb, gs, hfl, hfl2, s1, s2, List.set_set]
      exact LoopEnd.of (A', x, y :: B, R) (hM2 hxy) (by simp) (weakS_set (b := ⟨M2.flatMap nmE, true, e, 1⟩) ht (nmE_flat _) (by rw [← hM3]; simp) (by simp [s1, s2]) (by simp -dsimp -implicitDefEqProofs (disch := omega) [go_sem, -List.getD_eq_getElem?_getD, ite_yes, ht]))
    · simp -dsimp -implicitDefEqProofs (disch := omega) [go_sem, -List.getD_eq_getElem?_getD, ite_yes, ht, hjl, hj0, ca, cb, gs, hfl, hfl2, s1, s2, List.set_set]
      first | refine AAt.of (SubH.nil) ?_ | (refine ⟨?_, AAt.of (SubH.nil) ?_⟩; · omega)
      refine AAny.one 4 9 (by kernel_rfl) (by kernel_rfl) (by kernel_rfl) ?_
      simp -dsimp -implicitDefEqProofs (disch := omega) [go_sem, -List.getD_eq_getElem?_getD, ite_yes, ht, hjl, hj0, ca, cb, gs, hfl, hfl2, s1, s2, List.set_set]
      first | refine AAt.of (SubH.nil) ?_ | (refine ⟨?_, AAt.of (SubH.nil) ?_⟩; · omega)
      refine AAny.takes (fuel := 3) (by kernel_rfl) (by kernel_rfl) [14] (by kernel_rfl) (by kernel_rfl) ?_
      simp -dsimp -implicitDefEqProofs (disch := omega) [go_sem, -List.getD_eq_getElem?_getD, ite_yes, ht, hjl, hj0, ca, cb, gs, hfl, hfl2, s1, s2, List.set_set]
      refine AAny.one 2 15 (by kernel_rfl) (by kernel_rfl) (by kernel_rfl) ?_
      simp -dsimp -implicitDefEqProofs (disch := omega) [go_sem, -List.getD_eq_getElem?_getD, ite_yes, ht, hjl, hj0, ca, cb, gs, hfl, hfl2, s1, s2, List.set_set]
      first | refine AAt.of (SubH.nil) ?_ | (refine ⟨?_, AAt.of (SubH.nil) ?_⟩; · omega)
      refine AAny.takes (fuel := 1) (by kernel_rfl) (by kernel_rfl) [16] (by kernel_rfl) (by kernel_rfl) ?_
      simp -dsimp -implicitDefEqProofs (disch := omega) [go_sem, -List.getD_eq_getElem?_getD, ite_yes, ht, hjl, hj0, ca, cb, gs, hfl, hfl2, s1, s2, List.set_set]
      refine AAny.one 0 17 (by kernel_rfl) (by kernel_rfl) (by kernel_rfl) ?_
      simp -dsimp -implicitDefEqProofs (disch := omega) [go_sem, -List.getD_eq_getElem?_getD, ite_yes, ht, hjl, hj0, ca, cb, gs, hfl, hfl2, s1, s2, List.set_set]
      first | refine AAt.of (SubH.nil) ?_ | (refine ⟨?_, AAt.of (SubH.nil) ?_⟩; · omega)
      refine AAny.done (by kernel_rfl) ?_
      simp -dsimp -implicitDefEqProofs (disch := omega) [go_sem, -List.getD_eq_getElem?_getD, ite_yes, ht, hjl, hj0, ca, cb, gs, hfl, hfl2, s1, s2, List.set_set]
      exact LoopEnd.of (A', x, y :: B, R) (hM2 hxy) (by simp) (weakS_set (b := ⟨M2.flatMap nmE, true, e, 1⟩) ht (nmE_flat _) (by rw [← hM3]; simp) (by simp [s1, s2]) (by simp -dsimp -implicitDefEqProofs (disch := omega) [go_sem, -List.getD_eq_getElem?_getD, ite_yes, ht]))
  · simp -dsimp -implicitDefEqProofs (disch := omega) [go_sem, -List.getD_eq_getElem?_getD, ite_yes, hxy, ht]
    have hx : ∀ a ∈ A' ++ [y], a ≤ x := by
      have h1 := (List.pairwise_append.1 hI.srt).1
      have h2 := List.pairwise_append.1 h1
      intro a ha
      rcases List.mem_append.1 ha with ha | ha
      · have := h2.2.2 a ha y (by simp); omega
      · have : a = y := by simpa using ha
        omega
    exact LoopEnd.of (M, i + 1) (hend hx) (by omega) (weakS_set ht (nmE_flat _) rfl rfl (by simp -dsimp -implicitDefEqProofs (disch := omega) [go_sem, -List.getD_eq_getElem?_getD, ite_yes, ht]))
end Go.Proofs.Ytamkdgjagjpmlaa
