/- Sort, Sort2, MoveCopy, Order, Gentle, RecNet, Gentle2, Wait, Wait2, in one text. -/
import Derived.Test.YtncblopbcnkinaaGreatOrM1
import Derived.Test.YtncblopbcnkinaaGreatShort
import Derived.Test.YtncblopbcnkinaaGreatNet
import Derived.Test.YtncblopbcnkinaaGreatAm15
/- slices.Sort on at most twelve numbers. -/
namespace Go.Proofs.YtncblopbcnkinaaGreat
open Go.Am
set_option linter.unusedVariables false
set_option linter.unusedSimpArgs false
set_option maxRecDepth 100000
set_option maxHeartbeats 4000000

abbrev Srt (l : List Int) : Prop := l.Pairwise (· ≤ ·)
theorem srt_perm_eq : ∀ {a b : List Int}, a.Perm b → Srt a → Srt b → a = b
  | [], b, h, _, _ => (List.nil_perm.1 h).symm ▸ rfl
  | x :: a, [], h, _, _ => absurd (List.perm_nil.1 h) (by simp)
  | x :: a, y :: b, h, ha, hb => by
    have ha' := List.pairwise_cons.1 ha
    have hb' := List.pairwise_cons.1 hb
    have hxy : x = y := by
      have hx : x ∈ y :: b := h.mem_iff.1 (by simp)
      have hy : y ∈ x :: a := h.mem_iff.2 (by simp)
      rcases List.mem_cons.1 hx with e | hx
      · exact e
      · rcases List.mem_cons.1 hy with e | hy
        · exact e.symm
        · have := hb'.1 x hx
          have := ha'.1 y hy
          omega
    subst hxy
    rw [srt_perm_eq (List.Perm.cons_inv h) ha'.2 hb'.2]
/-- within the insertion: x stands behind A and before B -/
structure InS (l : List Int) (i : Nat) (A : List Int) (x : Int) (B R : List Int) : Prop where
  perm : (A ++ x :: (B ++ R)).Perm l
  srt : Srt (A ++ B)
  lt : ∀ b ∈ B, x < b
  len : A.length + B.length = i
theorem InS.swap {l : List Int} {i : Nat} {A : List Int} {y x : Int} {B R : List Int} (h : InS l i (A ++ [y]) x B R) (hxy : x < y) : InS l i A x (y :: B) R where
  perm := by
    refine List.Perm.trans ?_ h.perm
    rw [List.append_assoc]
    exact List.Perm.append_left A (List.Perm.swap y x (B ++ R))
  srt := by have := h.srt; rwa [List.append_assoc] at this
  lt := fun b hb => by
    rcases List.mem_cons.1 hb with rfl | hb
    · exact hxy
    · exact h.lt b hb
  len := by have := h.len; simp at this ⊢; omega
theorem InS.done {l : List Int} {i : Nat} {A : List Int} {x : Int} {B R : List Int} (h : InS l i A x B R) (hx : ∀ a ∈ A, a ≤ x) : Srt (A ++ x :: B) := by
  have h1 := List.pairwise_append.1 h.srt
  refine List.pairwise_append.2 ⟨h1.1, List.pairwise_cons.2 ⟨fun b hb => by have := h.lt b hb; omega, h1.2.1⟩, fun a ha b hb => ?_⟩
  rcases List.mem_cons.1 hb with rfl | hb
  · exact hx a ha
  · exact h1.2.2 a ha b hb
theorem nm_at (A T : List Int) (y : Int) : List.take 1 (List.drop A.length ((A ++ y :: T).flatMap nmE)) = [.int .i64 y] := by
  have := nm_cell1 (A ++ y :: T) (q := A.length) (by simp)
  simpa using this
theorem nm_put (A T : List Int) (y z : Int) : ((A ++ y :: T).flatMap nmE).set A.length (.int .i64 z) = (A ++ z :: T).flatMap nmE := by
  have := set_cell (f := nmE) (s := 1) (l := A ++ y :: T) (i := A.length) (fun _ => rfl) z 0 (by simp) (j := 0) (by omega) (v := .int .i64 z) rfl
  rw [Nat.mul_one, Nat.add_zero] at this
  rw [this]; simp
theorem isNaN_A (x : Int) (H : Heap) : AFunC Tryz.prog 112 [.int .i64 x] H (.bool false) H := by
  refine AFunC.of_body Tryz.func112 (by kernel_rfl) rfl (by kernel_rfl) (by simp [Tryz.ntmps112]) ?_
  simp -dsimp -implicitDefEqProofs (disch := omega) [go_sem, -List.getD_eq_getElem?_getD, ite_yes]
  exact fin_flat0 rfl rfl
theorem less_A (x y : Int) (H : Heap) : AFunC Tryz.prog 93 [.int .i64 x, .int .i64 y] H (.bool (decide (x < y))) H := by
  refine AFunC.of_body Tryz.func93 (by kernel_rfl) rfl (by kernel_rfl) (by simp [Tryz.ntmps93]) ?_
  simp -dsimp -implicitDefEqProofs (disch := omega) [go_sem, -List.getD_eq_getElem?_getD, ite_yes]
  refine ACall.of (isNaN_A _ _) ?_
  simp -dsimp -implicitDefEqProofs (disch := omega) [go_sem, -List.getD_eq_getElem?_getD, ite_yes]
  exact fin_flat0 rfl rfl
/-- what sorting hands out -/
def SortOut (H : Heap) (t e : Nat) (l : List Int) (v : Value) (G : Heap) : Prop :=
  ∃ m : List Int, v = .tuple #[] ∧ m.Perm l ∧ Srt m ∧ G = H.set t (some ⟨m.flatMap nmE, true, e, 1⟩)
theorem insertionSort_R (l : List Int) (hl : l.length ≤ 1048577) (c e : Nat) (H : Heap) (t : Nat) (hb : H.get t = some ⟨l.flatMap nmE, true, e, 1⟩) :
    AFunR Tryz.prog 87 [.slice (some ⟨t, 0, none⟩) l.length c, .int .i64 0, .int .i64 l.length] H (SortOut H t e l) := by
  refine AFunR.of_body Tryz.func87 (by kernel_rfl) rfl (by kernel_rfl) (by simp [Tryz.ntmps87]) ?_
  have ht := Heap.get_lt hb
  simp -dsimp -implicitDefEqProofs (disch := omega) [go_sem, -List.getD_eq_getElem?_getD, ite_yes, ht]
  refine ALoop.intro (ι := List Int × Nat) (fun q => q.1.Perm l ∧ Srt (q.1.take q.2) ∧ 1 ≤ q.2 ∧ q.2 ≤ l.length + 1) (fun q => [(0, .slice (some ⟨t, 0, none⟩) l.length c), (1, .int .i64 0), (2, .int .i64 l.length), (6, .int .i64 q.2)])
    (fun q => H.set t (some ⟨q.1.flatMap nmE, true, e, 1⟩)) (fun q => l.length + 1 - q.2) (l, 1) ⟨List.Perm.refl _, ?_, by omega, by omega⟩ ?_ ?_
  · cases l with
    | nil => exact List.Pairwise.nil
    | cons a l => simp
  · exact weakS_set ht (nmE_flat _) rfl (Heap.set_self hb).symm (by simp -dsimp -implicitDefEqProofs (disch := omega) [go_sem, -List.getD_eq_getElem?_getD, ite_yes, ht])
  rintro ⟨m, i⟩ ⟨hm, hs, hi1, hi2⟩
  simp only at hm hs hi1 hi2 ⊢
  have gs := fun x => Heap.get_set_self (H := H) ht (x := x)
  have hml : m.length = l.length := hm.length_eq
  by_cases hlt : i < l.length
  rotate_left
  · have hlt' : ¬ (i : Int) < (l.length : Int) := by omega
    rw [List.take_of_length_le (by omega)] at hs
    simp -dsimp -implicitDefEqProofs (disch := omega) [go_sem, -List.getD_eq_getElem?_getD, ite_yes, hlt', hlt]
    exact EndR.of (.tuple #[]) (H.set t (some ⟨m.flatMap nmE, true, e, 1⟩)) ⟨m, rfl, hm, hs, rfl⟩ (fin_set ht (nmE_flat m) rfl rfl rfl rfl)
  have hlt' : (i : Int) < (l.length : Int) := by omega
  simp -dsimp -implicitDefEqProofs (disch := omega) [go_sem, -List.getD_eq_getElem?_getD, ite_yes, hlt', hlt, ht]
  have hsplit : m = m.take i ++ m.getD i 0 :: ([] ++ m.drop (i + 1)) := by
    rw [List.nil_append]
    have : m.getD i 0 = m[i]'(by omega) := by rw [List.getD_eq_getElem?_getD, List.getElem?_eq_getElem (by omega)]; rfl
    rw [this, ← List.drop_eq_getElem_cons, List.take_append_drop]
  refine ALoop.intro (ι := List Int × Int × List Int × List Int) (fun q => InS l i q.1 q.2.1 q.2.2.1 q.2.2.2) (fun q => [(0, .slice (some ⟨t, 0, none⟩) l.length c), (1, .int .i64 0), (2, .int .i64 l.length), (6, .int .i64 i), (7, .int .i64 q.1.length)])
    (fun q => H.set t (some ⟨(q.1 ++ q.2.1 :: (q.2.2.1 ++ q.2.2.2)).flatMap nmE, true, e, 1⟩)) (fun q => q.1.length) (m.take i, m.getD i 0, [], m.drop (i + 1)) ?_ ?_ ?_
  · exact ⟨by rw [← hsplit]; exact hm, by simpa using hs, fun b hb => absurd hb (by simp), by simp; omega⟩
  · exact weakS_set ht (nmE_flat _) rfl (by rw [← hsplit]) (by simp -dsimp -implicitDefEqProofs (disch := omega) [go_sem, -List.getD_eq_getElem?_getD, ite_yes, ht])
  rintro ⟨A, x, B, R⟩ hI
  simp only at hI ⊢
  have hbl := hI.len
  have hpl := hI.perm.length_eq
  simp only [List.length_append, List.length_cons] at hpl
  have hend : (∀ a ∈ A, a ≤ x) → (A ++ x :: (B ++ R)).Perm l ∧ Srt ((A ++ x :: (B ++ R)).take (i + 1)) ∧ 1 ≤ i + 1 ∧ i + 1 ≤ l.length + 1 := fun hx => by
    refine ⟨hI.perm, ?_, by omega, by omega⟩
    have e9 : A ++ x :: (B ++ R) = (A ++ x :: B) ++ R := by simp
    rw [e9, List.take_left' (by simp; omega)]
    exact hI.done hx
  rcases List.eq_nil_or_concat A with rfl | ⟨A', y, rfl⟩
  · obtain ⟨M, hM⟩ : ∃ M, [] ++ x :: (B ++ R) = M := ⟨_, rfl⟩
    rw [hM] at hend ⊢
    simp -dsimp -implicitDefEqProofs (disch := omega) [go_sem, -List.getD_eq_getElem?_getD, ite_yes, ht]
    refine ADraw.quiet (by kernel_rfl) (by kernel_rfl) (by kernel_rfl) ?_
    simp -dsimp -implicitDefEqProofs (disch := omega) [go_sem, -List.getD_eq_getElem?_getD, ite_yes, ht]
    exact LoopEnd.of (M, i + 1) (hend fun a ha => absurd ha (by simp)) (by omega) (weakS_set ht (nmE_flat _) rfl rfl (by simp -dsimp -implicitDefEqProofs (disch := omega) [go_sem, -List.getD_eq_getElem?_getD, ite_yes, ht]))
  rw [List.concat_eq_append] at *
  have hl1 : (A' ++ [y]).length = A'.length + 1 := by simp
  have e1 : (A' ++ [y]) ++ x :: (B ++ R) = A' ++ y :: x :: (B ++ R) := by simp
  have hfl : ((A' ++ y :: x :: (B ++ R)).flatMap nmE).length = l.length := by rw [nmE_length, ← hpl]; simp; omega
  have hjl : A'.length + 1 < l.length := by rw [hl1] at hbl hpl; omega
  have hj0 : A'.length < l.length := by omega
  have ca : aCells (H.set t (some ⟨(A' ++ y :: x :: (B ++ R)).flatMap nmE, true, e, 1⟩)) ⟨t, A'.length + 1, none⟩ 1 = some [.int .i64 x] := by
    have := nm_at (A' ++ [y]) (B ++ R) x
    rw [e1, hl1] at this
    rw [aCells_eq, gs, aC1]
    simp only [hfl]
    rw [if_pos (by omega), this]
  have cb : aCells (H.set t (some ⟨(A' ++ y :: x :: (B ++ R)).flatMap nmE, true, e, 1⟩)) ⟨t, A'.length, none⟩ 1 = some [.int .i64 y] := by
    have := nm_at A' (x :: (B ++ R)) y
    rw [aCells_eq, gs, aC1]
    simp only [hfl]
    rw [if_pos (by omega), this]
  have s1 : ((A' ++ y :: x :: (B ++ R)).flatMap nmE).set (A'.length + 1) (.int .i64 y) = (A' ++ y :: y :: (B ++ R)).flatMap nmE := by
    have := nm_put (A' ++ [y]) (B ++ R) x y
    rw [hl1] at this
    simpa using this
  have s2 : ((A' ++ y :: y :: (B ++ R)).flatMap nmE).set A'.length (.int .i64 x) = (A' ++ x :: y :: (B ++ R)).flatMap nmE := nm_put A' (y :: (B ++ R)) y x
  have hfl2 : ((A' ++ y :: y :: (B ++ R)).flatMap nmE).length = l.length := by rw [nmE_length, ← hpl]; simp; omega
  rw [e1, hl1]
  rw [e1] at hend
  have hM2 := (hI.swap (A := A') (y := y))
  obtain ⟨M, hM⟩ : ∃ M, A' ++ y :: x :: (B ++ R) = M := ⟨_, rfl⟩
  obtain ⟨M1, hM1⟩ : ∃ M, A' ++ y :: y :: (B ++ R) = M := ⟨_, rfl⟩
  obtain ⟨M2, hM3⟩ : ∃ M, A' ++ x :: y :: (B ++ R) = M := ⟨_, rfl⟩
  rw [hM] at hend hfl ca cb s1 ⊢
  rw [hM1] at s1 s2 hfl2
  rw [hM3] at s2
  have hj1 : (((A'.length + 1 : Nat) : Int) - 1).toNat = A'.length := by omega
  simp -dsimp -implicitDefEqProofs (disch := omega) [go_sem, -List.getD_eq_getElem?_getD, ite_yes, ht, hjl, hj0]
  refine ADraw.quiet (by kernel_rfl) (by kernel_rfl) (by kernel_rfl) ?_
  simp -dsimp -implicitDefEqProofs (disch := omega) [go_sem, -List.getD_eq_getElem?_getD, ite_yes, ht, hjl, hj0, ca, cb]
  refine ACallQ.of (less_A x y _) rfl ?_
  by_cases hxy : x < y
  · simp -dsimp -implicitDefEqProofs (disch := omega) [go_sem, -List.getD_eq_getElem?_getD, ite_yes, hxy, ht]
    refine ADraw.any [] (by kernel_rfl) (SubH.nil) ?_
    refine AAny.takes (fuel := 6) (by kernel_rfl) (by kernel_rfl) [0, 1, 2, 3, 4, 5, 6, 7, 8, 10, 11, 12] (by kernel_rfl) (by kernel_rfl) ?_
    simp -dsimp -implicitDefEqProofs (disch := omega) [go_sem, -List.getD_eq_getElem?_getD, ite_yes, ht, hjl, hj0, ca, cb, gs, hfl, hfl2, s1, s2, List.set_set]
    refine AAny.two 5 9 13 (by kernel_rfl) (by kernel_rfl) (by kernel_rfl) ?_ ?_
    · simp -dsimp -implicitDefEqProofs (disch := omega) [go_sem, -List.getD_eq_getElem?_getD, ite_yes, ht, hjl, hj0, ca, cb, gs, hfl, hfl2, s1, s2, List.set_set]
      first | refine AAt.of (SubH.nil) ?_ | (refine ⟨?_, AAt.of (SubH.nil) ?_⟩; · omega)
      refine AAny.one 4 13 (by kernel_rfl) (by kernel_rfl) (by kernel_rfl) ?_
      simp -dsimp -implicitDefEqProofs (disch := omega) [go_sem, -List.getD_eq_getElem?_getD, ite_yes, ht, hjl, hj0, ca, cb, gs, hfl, hfl2, s1, s2, List.set_set]
      first | refine AAt.of (SubH.nil) ?_ | (refine ⟨?_, AAt.of (SubH.nil) ?_⟩; · omega)
      refine AAny.takes (fuel := 3) (by kernel_rfl) (by kernel_rfl) [14] (by kernel_rfl) (by kernel_rfl) ?_
      simp -dsimp -implicitDefEqProofs (disch := omega) [go_sem, -List.getD_eq_getElem?_getD, ite_yes, ht, hjl, hj0, ca, cb, gs, hfl, hfl2, s1, s2, List.set_set]
      refine AAny.one 2 15 (by kernel_rfl) (by kernel_rfl) (by kernel_rfl) ?_
      simp -dsimp -implicitDefEqProofs (disch := omega) [go_sem, -List.getD_eq_getElem?_getD, ite_yes, ht, hjl, hj0, ca, cb, gs, hfl, hfl2, s1, s2, List.set_set]
      first | refine AAt.of (SubH.nil) ?_ | (refine ⟨?_, AAt.of (SubH.nil) ?_⟩; · omega)
      refine AAny.takes (fuel := 1) (by kernel_rfl) (by kernel_rfl) [16] (by kernel_rfl) (by kernel_rfl) ?_
      simp -dsimp -implicitDefEqProofs (disch := omega) [go_sem, -List.getD_eq_getElem?_getD, ite_yes, ht, hjl, hj0, ca, cb, gs, hfl, hfl2, s1, s2, List.set_set]
      refine AAny.one 0 17 (by kernel_rfl) (by kernel_rfl) (by kernel_rfl) ?_
      simp -dsimp -implicitDefEqProofs (disch := omega) [go_sem, -List.getD_eq_getElem?_getD, ite_yes, ht, hjl, hj0, ca, cb, gs, hfl, hfl2, s1, s2, List.set_set]
      first | refine AAt.of (SubH.nil) ?_ | (refine ⟨?_, AAt.of (SubH.nil) ?_⟩; · omega)
      refine AAny.done (by kernel_rfl) ?_
      simp -dsimp -implicitDefEqProofs (disch := omega) [go_sem, -List.getD_eq_getElem?_getD, ite_yes, ht, hjl, hj0, ca, cb, gs, hfl, hfl2, s1, s2, List.set_set]
      exact LoopEnd.of (A', x, y :: B, R) (hM2 hxy) (by simp) (weakS_set (b := ⟨M2.flatMap nmE, true, e, 1⟩) ht (nmE_flat _) (by rw [← hM3]; simp) (by simp [s1, s2]) (by simp -dsimp -implicitDefEqProofs (disch := omega) [go_sem, -List.getD_eq_getElem?_getD, ite_yes, ht]))
    · simp -dsimp -implicitDefEqProofs (disch := omega) [go_sem, -List.getD_eq_getElem?_getD, ite_yes, ht, hjl, hj0, ca, cb, gs, hfl, hfl2, s1, s2, List.set_set]
      first | refine AAt.of (SubH.nil) ?_ | (refine ⟨?_, AAt.of (SubH.nil) ?_⟩; · omega)
      refine AAny.one 4 9 (by kernel_rfl) (by kernel_rfl) (by kernel_rfl) ?_
      simp -dsimp -implicitDefEqProofs (disch := omega) [go_sem, -List.getD_eq_getElem?_getD, ite_yes, ht, hjl, hj0, ca, cb, gs, hfl, hfl2, s1, s2, List.set_set]
      first | refine AAt.of (SubH.nil) ?_ | (refine ⟨?_, AAt.of (SubH.nil) ?_⟩; · omega)
      refine AAny.takes (fuel := 3) (by kernel_rfl) (by kernel_rfl) [14] (by kernel_rfl) (by kernel_rfl) ?_
      simp -dsimp -implicitDefEqProofs (disch := omega) [go_sem, -List.getD_eq_getElem?_getD, ite_yes, ht, hjl, hj0, ca, cb, gs, hfl, hfl2, s1, s2, List.set_set]
      refine AAny.one 2 15 (by kernel_rfl) (by kernel_rfl) (by kernel_rfl) ?_
      simp -dsimp -implicitDefEqProofs (disch := omega) [go_sem, -List.getD_eq_getElem?_getD, ite_yes, ht, hjl, hj0, ca, cb, gs, hfl, hfl2, s1, s2, List.set_set]
      first | refine AAt.of (SubH.nil) ?_ | (refine ⟨?_, AAt.of (SubH.nil) ?_⟩; · omega)
      refine AAny.takes (fuel := 1) (by kernel_rfl) (by kernel_rfl) [16] (by kernel_rfl) (by kernel_rfl) ?_
      simp -dsimp -implicitDefEqProofs (disch := omega) [go_sem, -List.getD_eq_getElem?_getD, ite_yes, ht, hjl, hj0, ca, cb, gs, hfl, hfl2, s1, s2, List.set_set]
      refine AAny.one 0 17 (by kernel_rfl) (by kernel_rfl) (by kernel_rfl) ?_
      simp -dsimp -implicitDefEqProofs (disch := omega) [go_sem, -List.getD_eq_getElem?_getD, ite_yes, ht, hjl, hj0, ca, cb, gs, hfl, hfl2, s1, s2, List.set_set]
      first | refine AAt.of (SubH.nil) ?_ | (refine ⟨?_, AAt.of (SubH.nil) ?_⟩; · omega)
      refine AAny.done (by kernel_rfl) ?_
      simp -dsimp -implicitDefEqProofs (disch := omega) [go_sem, -List.getD_eq_getElem?_getD, ite_yes, ht, hjl, hj0, ca, cb, gs, hfl, hfl2, s1, s2, List.set_set]
      exact LoopEnd.of (A', x, y :: B, R) (hM2 hxy) (by simp) (weakS_set (b := ⟨M2.flatMap nmE, true, e, 1⟩) ht (nmE_flat _) (by rw [← hM3]; simp) (by simp [s1, s2]) (by simp -dsimp -implicitDefEqProofs (disch := omega) [go_sem, -List.getD_eq_getElem?_getD, ite_yes, ht]))
  · simp -dsimp -implicitDefEqProofs (disch := omega) [go_sem, -List.getD_eq_getElem?_getD, ite_yes, hxy, ht]
    have hx : ∀ a ∈ A' ++ [y], a ≤ x := by
      have h1 := (List.pairwise_append.1 hI.srt).1
      have h2 := List.pairwise_append.1 h1
      intro a ha
      rcases List.mem_append.1 ha with ha | ha
      · have := h2.2.2 a ha y (by simp); omega
      · have : a = y := by simpa using ha
        omega
    exact LoopEnd.of (M, i + 1) (hend hx) (by omega) (weakS_set ht (nmE_flat _) rfl rfl (by simp -dsimp -implicitDefEqProofs (disch := omega) [go_sem, -List.getD_eq_getElem?_getD, ite_yes, ht]))
end Go.Proofs.YtncblopbcnkinaaGreat
/- slices.Sort and slices.Equal on at most ten numbers. -/
namespace Go.Proofs.YtncblopbcnkinaaGreat
open Go.Am
set_option linter.unusedVariables false
set_option linter.unusedSimpArgs false
set_option maxRecDepth 100000
set_option maxHeartbeats 4000000

theorem wrap_u64 {x : Int} (h1 : 0 ≤ x) (h2 : x ≤ 1000) : IntKind.u64.wrap x = x := by
  simp [IntKind.wrap, IntKind.signed, IntKind.bits]; omega
theorem len64_A (k : Nat) (hk : k ≤ 10) (H : Heap) : ∃ r : Int, AFunC Tryz.prog 97 [.int .u64 k] H (.int .i64 r) H := by
  have h1 : ¬ (4294967296 : Int) ≤ (k : Int) := by omega
  have h2 : ¬ (65536 : Int) ≤ (k : Int) := by omega
  have h3 : ¬ (256 : Int) ≤ (k : Int) := by omega
  match k, hk with
  | 0, _ =>
    refine ⟨0, ?_⟩
    refine AFunC.of_body Tryz.func97 (by kernel_rfl) rfl (by kernel_rfl) (by simp [Tryz.ntmps97]) ?_
    simp -dsimp -implicitDefEqProofs (disch := omega) [go_sem, -List.getD_eq_getElem?_getD, ite_yes]
    exact fin_flat0 rfl rfl
  | 1, _ =>
    refine ⟨1, ?_⟩
    refine AFunC.of_body Tryz.func97 (by kernel_rfl) rfl (by kernel_rfl) (by simp [Tryz.ntmps97]) ?_
    simp -dsimp -implicitDefEqProofs (disch := omega) [go_sem, -List.getD_eq_getElem?_getD, ite_yes]
    exact fin_flat0 rfl rfl
  | 2, _ =>
    refine ⟨2, ?_⟩
    refine AFunC.of_body Tryz.func97 (by kernel_rfl) rfl (by kernel_rfl) (by simp [Tryz.ntmps97]) ?_
    simp -dsimp -implicitDefEqProofs (disch := omega) [go_sem, -List.getD_eq_getElem?_getD, ite_yes]
    exact fin_flat0 rfl rfl
  | 3, _ =>
    refine ⟨2, ?_⟩
    refine AFunC.of_body Tryz.func97 (by kernel_rfl) rfl (by kernel_rfl) (by simp [Tryz.ntmps97]) ?_
    simp -dsimp -implicitDefEqProofs (disch := omega) [go_sem, -List.getD_eq_getElem?_getD, ite_yes]
    exact fin_flat0 rfl rfl
  | 4, _ =>
    refine ⟨3, ?_⟩
    refine AFunC.of_body Tryz.func97 (by kernel_rfl) rfl (by kernel_rfl) (by simp [Tryz.ntmps97]) ?_
    simp -dsimp -implicitDefEqProofs (disch := omega) [go_sem, -List.getD_eq_getElem?_getD, ite_yes]
    exact fin_flat0 rfl rfl
  | 5, _ =>
    refine ⟨3, ?_⟩
    refine AFunC.of_body Tryz.func97 (by kernel_rfl) rfl (by kernel_rfl) (by simp [Tryz.ntmps97]) ?_
    simp -dsimp -implicitDefEqProofs (disch := omega) [go_sem, -List.getD_eq_getElem?_getD, ite_yes]
    exact fin_flat0 rfl rfl
  | 6, _ =>
    refine ⟨3, ?_⟩
    refine AFunC.of_body Tryz.func97 (by kernel_rfl) rfl (by kernel_rfl) (by simp [Tryz.ntmps97]) ?_
    simp -dsimp -implicitDefEqProofs (disch := omega) [go_sem, -List.getD_eq_getElem?_getD, ite_yes]
    exact fin_flat0 rfl rfl
  | 7, _ =>
    refine ⟨3, ?_⟩
    refine AFunC.of_body Tryz.func97 (by kernel_rfl) rfl (by kernel_rfl) (by simp [Tryz.ntmps97]) ?_
    simp -dsimp -implicitDefEqProofs (disch := omega) [go_sem, -List.getD_eq_getElem?_getD, ite_yes]
    exact fin_flat0 rfl rfl
  | 8, _ =>
    refine ⟨4, ?_⟩
    refine AFunC.of_body Tryz.func97 (by kernel_rfl) rfl (by kernel_rfl) (by simp [Tryz.ntmps97]) ?_
    simp -dsimp -implicitDefEqProofs (disch := omega) [go_sem, -List.getD_eq_getElem?_getD, ite_yes]
    exact fin_flat0 rfl rfl
  | 9, _ =>
    refine ⟨4, ?_⟩
    refine AFunC.of_body Tryz.func97 (by kernel_rfl) rfl (by kernel_rfl) (by simp [Tryz.ntmps97]) ?_
    simp -dsimp -implicitDefEqProofs (disch := omega) [go_sem, -List.getD_eq_getElem?_getD, ite_yes]
    exact fin_flat0 rfl rfl
  | 10, _ =>
    refine ⟨4, ?_⟩
    refine AFunC.of_body Tryz.func97 (by kernel_rfl) rfl (by kernel_rfl) (by simp [Tryz.ntmps97]) ?_
    simp -dsimp -implicitDefEqProofs (disch := omega) [go_sem, -List.getD_eq_getElem?_getD, ite_yes]
    exact fin_flat0 rfl rfl
theorem len_A (k : Nat) (hk : k ≤ 10) (H : Heap) : ∃ r : Int, AFunC Tryz.prog 61 [.int .u64 k] H (.int .i64 r) H := by
  obtain ⟨r, A⟩ := len64_A k hk H
  refine ⟨r, ?_⟩
  refine AFunC.of_body Tryz.func61 (by kernel_rfl) rfl (by kernel_rfl) (by simp [Tryz.ntmps61]) ?_
  simp -dsimp -implicitDefEqProofs (disch := omega) [go_sem, -List.getD_eq_getElem?_getD, ite_yes]
  refine ACall.of A ?_
  simp -dsimp -implicitDefEqProofs (disch := omega) [go_sem, -List.getD_eq_getElem?_getD, ite_yes]
  exact fin_flat0 rfl rfl
theorem pdq_R (l : List Int) (hl : l.length ≤ 10) (c e : Nat) (lim : Int) (H : Heap) (t : Nat) (hb : H.get t = some ⟨l.flatMap nmE, true, e, 1⟩) :
    AFunR Tryz.prog 60 [.slice (some ⟨t, 0, none⟩) l.length c, .int .i64 0, .int .i64 l.length, .int .i64 lim] H (SortOut H t e l) := by
  refine AFunR.of_body Tryz.func60 (by kernel_rfl) rfl (by kernel_rfl) (by simp [Tryz.ntmps60]) ?_
  have ht := Heap.get_lt hb
  have h12 : (l.length : Int) ≤ 12 := by omega
  simp -dsimp -implicitDefEqProofs (disch := omega) [go_sem, -List.getD_eq_getElem?_getD, ite_yes, ht]
  refine ALoop.intro (ι := Unit) (fun _ => True) (fun _ => [(0, .slice (some ⟨t, 0, none⟩) l.length c), (1, .int .i64 0), (2, .int .i64 l.length)]) (fun _ => H) (fun _ => 0) () trivial ?_ ?_
  · exact weakS_same (by simp -dsimp -implicitDefEqProofs (disch := omega) [go_sem, -List.getD_eq_getElem?_getD, ite_yes, ht])
  intro _ _
  simp -dsimp -implicitDefEqProofs (disch := omega) [go_sem, -List.getD_eq_getElem?_getD, ite_yes, h12]
  refine ACall.via (insertionSort_R l (by omega) c e H t hb) ?_
  rintro v G ⟨m, rfl, h1, h2, rfl⟩
  simp -dsimp -implicitDefEqProofs (disch := omega) [go_sem, -List.getD_eq_getElem?_getD, ite_yes]
  exact EndR.of (.tuple #[]) (H.set t (some ⟨m.flatMap nmE, true, e, 1⟩)) ⟨m, rfl, h1, h2, rfl⟩ (fin_set ht (nmE_flat m) rfl rfl rfl rfl)
theorem sort_R (l : List Int) (hl : l.length ≤ 10) (c e : Nat) (H : Heap) (t : Nat) (hb : H.get t = some ⟨l.flatMap nmE, true, e, 1⟩) :
    AFunR Tryz.prog 32 [.slice (some ⟨t, 0, none⟩) l.length c] H (SortOut H t e l) := by
  obtain ⟨r, A⟩ := len_A l.length hl H
  refine AFunR.of_body Tryz.func32 (by kernel_rfl) rfl (by kernel_rfl) (by simp [Tryz.ntmps32]) ?_
  have ht := Heap.get_lt hb
  simp -dsimp -implicitDefEqProofs (disch := omega) [go_sem, -List.getD_eq_getElem?_getD, ite_yes, wrap_u64, ht]
  refine ACall.of A ?_
  simp -dsimp -implicitDefEqProofs (disch := omega) [go_sem, -List.getD_eq_getElem?_getD, ite_yes, ht]
  refine ACall.via (pdq_R l hl c e r H t hb) ?_
  rintro v G ⟨m, rfl, h1, h2, rfl⟩
  simp -dsimp -implicitDefEqProofs (disch := omega) [go_sem, -List.getD_eq_getElem?_getD, ite_yes]
  exact EndR.of (.tuple #[]) (H.set t (some ⟨m.flatMap nmE, true, e, 1⟩)) ⟨m, rfl, h1, h2, rfl⟩ (fin_set ht (nmE_flat m) rfl rfl rfl rfl)
theorem equalNm_A (l m : List Int) (hl : l.length ≤ 1048577) (hm : m.length ≤ 1048577) (c d : Nat) (H : Heap) (t u : Nat) (hS : Sl nmE H t l) (hU : Sl nmE H u m) :
    AFunC Tryz.prog 33 [.slice (some ⟨t, 0, none⟩) l.length c, .slice (some ⟨u, 0, none⟩) m.length d] H (.bool (decide (l = m))) H := by
  refine AFunC.of_body Tryz.func33 (by kernel_rfl) rfl (by kernel_rfl) (by simp [Tryz.ntmps33]) ?_
  have ht := hS.lt
  have hu := hU.lt
  have cs := fun k hk => hS.one (g := fun n => Value.int .i64 n) 0 k hk
  have cu := fun k hk => hU.one (g := fun n => Value.int .i64 n) 0 k hk
  by_cases hlm : l.length = m.length
  rotate_left
  · have h2 : ¬ (l.length : Int) = (m.length : Int) := by omega
    simp -dsimp -implicitDefEqProofs (disch := omega) [go_sem, -List.getD_eq_getElem?_getD, ite_yes, h2, hlm]
    exact fin_flat0 rfl (by rw [decide_eq_false (fun e => hlm (by rw [e]))])
  have h2 : (l.length : Int) = (m.length : Int) := by omega
  simp -dsimp -implicitDefEqProofs (disch := omega) [go_sem, -List.getD_eq_getElem?_getD, ite_yes, h2, hlm]
  refine ALoop.intro (ι := Nat) (fun k => k ≤ m.length ∧ ∀ i, i < k → l.getD i 0 = m.getD i 0) (fun k => [(0, .slice (some ⟨t, 0, none⟩) l.length c), (1, .slice (some ⟨u, 0, none⟩) m.length d), (12, .int .i64 m.length), (13, .int .i64 k)]) (fun _ => H) (fun k => m.length - k) 0 ⟨by omega, fun i hi => by omega⟩ ?_ ?_
  · exact weakS_same (by simp -dsimp -implicitDefEqProofs (disch := omega) [go_sem, -List.getD_eq_getElem?_getD, ite_yes, ht, hu, hlm])
  · rintro k ⟨hk, hf⟩
    by_cases hlt : k < m.length
    · have hlt2 : k < l.length := by omega
      have c1 := cs k hlt2
      have c2 := cu k hlt
      simp -dsimp -implicitDefEqProofs (disch := omega) [go_sem, -List.getD_eq_getElem?_getD, ite_yes, hlt, hlt2, ht, hu]
      refine ADraw.quiet (by kernel_rfl) (by kernel_rfl) (by kernel_rfl) ?_
      by_cases h : l.getD k 0 = m.getD k 0
      · simp -dsimp -implicitDefEqProofs (disch := omega) [go_sem, -List.getD_eq_getElem?_getD, ite_yes, hlt, hlt2, c1, c2, ht, hu, h]
        refine LoopEnd.of (k + 1) ⟨by omega, fun i hi => ?_⟩ (by omega) (weakS_same (by simp -dsimp -implicitDefEqProofs (disch := omega) [go_sem, -List.getD_eq_getElem?_getD, ite_yes, ht, hu]))
        rcases Nat.lt_or_ge i k with h' | h'
        · exact hf i h'
        · rw [show i = k by omega]; exact h
      · simp -dsimp -implicitDefEqProofs (disch := omega) [go_sem, -List.getD_eq_getElem?_getD, ite_yes, hlt, hlt2, c1, c2, ht, hu, h]
        exact fin_flat0 rfl (by rw [decide_eq_false (fun e => h (by rw [e]))])
    · simp -dsimp -implicitDefEqProofs (disch := omega) [go_sem, -List.getD_eq_getElem?_getD, ite_yes, hlt]
      have : l = m := by
        refine List.ext_getElem hlm fun i h1 h2 => ?_
        have := hf i (by omega)
        simpa [List.getD_eq_getElem?_getD, h1, h2] using this
      exact fin_flat0 rfl (by rw [decide_eq_true this])
end Go.Proofs.YtncblopbcnkinaaGreat
/- Copies of numbers. -/
namespace Go.Proofs.YtncblopbcnkinaaGreat
open Go.Am
set_option linter.unusedVariables false
set_option linter.unusedSimpArgs false
set_option maxRecDepth 100000
theorem copyInts_A (a : List Int) (ha : a.length ≤ 1048577) (c2 : Nat) (H : Heap) (u : Nat) (hU : Sl nmE H u a) :
    AFunC Tryz.prog 31 [.slice (some ⟨u, 0, none⟩) a.length c2] H (.slice (some ⟨H.length, 0, none⟩) a.length a.length) (H ++ [some ⟨a.flatMap nmE, true, 3, 1⟩]) := by
  refine AFunC.of_body Tryz.func31 (by kernel_rfl) rfl (by kernel_rfl) (by simp [Tryz.ntmps31]) ?_
  have hu := hU.lt
  have al := hU.all (s := 1) (fun _ => rfl)
  rw [Nat.mul_one] at al
  simp -dsimp -implicitDefEqProofs (disch := omega) [go_sem, -List.getD_eq_getElem?_getD, ite_yes, hu, al]
  refine ⟨by omega, fin_list [some 1] rfl ?_ (by simp -dsimp -implicitDefEqProofs (disch := omega) [go_sem, -List.getD_eq_getElem?_getD, ite_yes, hu])⟩
  simp -dsimp -implicitDefEqProofs (disch := omega) [go_sem, -List.getD_eq_getElem?_getD, ite_yes]
  exact .inl ⟨rfl, nmE_flat _⟩
theorem l1Own_A (a : List Int) (ha : a.length ≤ 1048577) (c2 : Nat) (H : Heap) (u : Nat) (hU : Sl nmE H u a) :
    AFunC Tryz.prog 69 [.slice (some ⟨u, 0, none⟩) a.length c2] H (.slice (some ⟨H.length, 0, none⟩) a.length a.length) (H ++ [some ⟨a.flatMap nmE, true, 3, 1⟩]) := by
  refine AFunC.of_body Tryz.func69 (by kernel_rfl) rfl (by kernel_rfl) (by simp [Tryz.ntmps69]) ?_
  have hu := hU.lt
  have al := hU.all (s := 1) (fun _ => rfl)
  rw [Nat.mul_one] at al
  simp -dsimp -implicitDefEqProofs (disch := omega) [go_sem, -List.getD_eq_getElem?_getD, ite_yes, hu, al]
  refine ⟨by omega, fin_list [some 1] rfl ?_ (by simp -dsimp -implicitDefEqProofs (disch := omega) [go_sem, -List.getD_eq_getElem?_getD, ite_yes, hu])⟩
  simp -dsimp -implicitDefEqProofs (disch := omega) [go_sem, -List.getD_eq_getElem?_getD, ite_yes]
  exact .inl ⟨rfl, nmE_flat _⟩
end Go.Proofs.YtncblopbcnkinaaGreat
/- IsOrder: both sides. -/
namespace Go.Proofs.YtncblopbcnkinaaGreat
open Go.Am
set_option linter.unusedVariables false
set_option linter.unusedSimpArgs false
set_option maxRecDepth 100000
set_option maxHeartbeats 4000000

/-- whether numbers are the shut valves in some order -/
def ordTo (l : List Vl) (a : List Int) (k : Nat) : Prop := ∀ i, i < k → hasI (shutL l) (a.getD i 0) = true ∧ hasI (a.take i) (a.getD i 0) = false
instance ordTo_dec (l : List Vl) (a : List Int) (k : Nat) : Decidable (ordTo l a k) := by unfold ordTo; infer_instance
def ordB (l : List Vl) (a : List Int) : Bool := decide (a.length = (shutL l).length) && decide (ordTo l a a.length)
def isOrd (n : Int) (ps : List Pp) (l : List Vl) (src : Int) (a : List Int) : Bool := askR n ps l src && ordB l a
theorem nodup_of {a : List Int} (h : ∀ i, i < a.length → hasI (a.take i) (a.getD i 0) = false) : a.Nodup := by
  refine List.pairwise_iff_getElem.2 fun i j hi hj hij e => ?_
  have := of_decide_eq_false (h j hj)
  refine this (List.mem_iff_getElem.2 ⟨i, by rw [List.length_take]; omega, ?_⟩)
  rw [List.getElem_take, e, List.getD_eq_getElem?_getD, List.getElem?_eq_getElem hj]; rfl
theorem of_nodup {a : List Int} (h : a.Nodup) {i : Nat} (hi : i < a.length) : hasI (a.take i) (a.getD i 0) = false := by
  refine decide_eq_false fun hm => ?_
  obtain ⟨j, hj, e⟩ := List.mem_iff_getElem.1 hm
  rw [List.length_take] at hj
  rw [List.getElem_take, List.getD_eq_getElem?_getD, List.getElem?_eq_getElem hi] at e
  exact List.pairwise_iff_getElem.1 h j i (by omega) hi (by omega) e
theorem perm_of_sub : ∀ {a b : List Int}, a.Nodup → (∀ x ∈ a, x ∈ b) → b.length ≤ a.length → a.Perm b
  | [], b, _, _, h => by
    have : b = [] := List.length_eq_zero_iff.1 (by simpa using h)
    rw [this]
  | x :: a, b, hn, hs, hl => by
    have hn' := List.pairwise_cons.1 hn
    obtain ⟨s, t, rfl⟩ := List.append_of_mem (hs x (by simp))
    have : a.Perm (s ++ t) := perm_of_sub hn'.2 (fun y hy => by
      have := hs y (List.mem_cons_of_mem _ hy)
      rcases List.mem_append.1 this with h | h
      · exact List.mem_append_left _ h
      · rcases List.mem_cons.1 h with rfl | h
        · exact absurd rfl (hn'.1 y hy)
        · exact List.mem_append_right _ h) (by simp at hl ⊢; omega)
    exact (List.Perm.cons x this).trans List.perm_middle.symm
theorem vl_asc {n : Int} {ps : List Pp} {l : List Vl} (h : goodV n ps l = true) : ∀ (i d : Nat), i + d + 1 < l.length → (l.getD i vl0).1 < (l.getD (i + d + 1) vl0).1
  | i, d, hi => by
    have st : ∀ j, j + 1 < l.length → (l.getD j vl0).1 < (l.getD (j + 1) vl0).1 := fun j hj => by
      unfold goodV at h
      simp only [Bool.and_eq_true, decide_eq_true_eq] at h
      have := h.2.2 (j + 1) hj
      unfold oneV at this
      simp only [Bool.and_eq_true, Bool.not_eq_true', Bool.and_eq_false_iff, decide_eq_false_iff_not, Nat.add_sub_cancel] at this
      rcases this.2.1 with h1 | h1
      · omega
      · omega
    induction d with
    | zero => exact st i hi
    | succ d ih => have := ih (by omega); have := st (i + d + 1) (by omega); rw [show i + (d + 1) + 1 = i + d + 1 + 1 by omega]; omega
theorem shutTo_up {n : Int} {ps : List Pp} {l : List Vl} (h : goodV n ps l = true) : ∀ k, k ≤ l.length → Up (shutTo l k) ∧ ∀ x ∈ shutTo l k, ∃ i, i < k ∧ x = (l.getD i vl0).1
  | 0, _ => ⟨List.Pairwise.nil, fun x hx => absurd hx (by simp [shutTo])⟩
  | k + 1, hk => by
    obtain ⟨h1, h2⟩ := shutTo_up h k (by omega)
    rw [shutTo]
    split
    · refine ⟨List.pairwise_append.2 ⟨h1, List.pairwise_singleton _ _, fun x hx y hy => ?_⟩, fun x hx => ?_⟩
      · obtain ⟨i, hi, rfl⟩ := h2 x hx
        rw [List.mem_singleton.1 hy]
        obtain ⟨d, rfl⟩ : ∃ d, k = i + d + 1 := ⟨k - i - 1, by omega⟩
        exact vl_asc h i d (by omega)
      · rcases List.mem_append.1 hx with hx | hx
        · obtain ⟨i, hi, e⟩ := h2 x hx
          exact ⟨i, by omega, e⟩
        · exact ⟨k, by omega, List.mem_singleton.1 hx⟩
    · refine ⟨h1, fun x hx => ?_⟩
      obtain ⟨i, hi, e⟩ := h2 x hx
      exact ⟨i, by omega, e⟩
theorem ordB_perm {l : List Vl} {a : List Int} (h : ordB l a = true) : a.Perm (shutL l) := by
  unfold ordB at h
  simp only [Bool.and_eq_true, decide_eq_true_eq] at h
  refine perm_of_sub (nodup_of fun i hi => (h.2 i hi).2) (fun x hx => ?_) (by omega)
  obtain ⟨i, hi, e⟩ := List.mem_iff_getElem.1 hx
  have := of_decide_eq_true (h.2 i hi).1
  rwa [List.getD_eq_getElem?_getD, List.getElem?_eq_getElem hi, Option.getD_some, e] at this
theorem ordB_sorted {n : Int} {ps : List Pp} {l : List Vl} (hg : goodV n ps l = true) {a m : List Int} (hm : m.Perm a) (hs : Srt m) : decide (m = shutL l) = ordB l a := by
  have hu := (shutTo_up hg l.length (Nat.le_refl _)).1
  cases ho : ordB l a
  · refine decide_eq_false fun e => ?_
    have hp : a.Perm (shutL l) := by rw [← e]; exact hm.symm
    have hnd : a.Nodup := hp.nodup_iff.2 (hu.imp fun h => by omega)
    have : ordB l a = true := by
      unfold ordB
      have h2 : ordTo l a a.length := fun i hi => ⟨by
        refine decide_eq_true (hp.mem_iff.1 ?_)
        rw [List.getD_eq_getElem?_getD, List.getElem?_eq_getElem hi]
        exact List.getElem_mem hi, of_nodup hnd hi⟩
      rw [decide_eq_true hp.length_eq, decide_eq_true h2]; rfl
    rw [this] at ho; cases ho
  · exact decide_eq_true (srt_perm_eq (hm.trans (ordB_perm ho)) hs (hu.imp fun h => by omega))
theorem iIsOrder_A (n : Int) (ps : List Pp) (hps : ps.length ≤ 1048577) (cp : Nat) (l : List Vl) (hl : l.length ≤ 1048577) (c : Nat) (src : Int) (a : List Int) (ha : a.length ≤ 1048577) (d : Nat) (H : Heap) (tp t u : Nat) (hP : Sl ppE H tp ps) (hS : Sl vlE H t l) (hU : Sl nmE H u a) :
    AFunC Tryz.prog 11 [netV n tp ps.length cp, .slice (some ⟨t, 0, none⟩) l.length c, .int .i64 src, .slice (some ⟨u, 0, none⟩) a.length d] H (.bool (isOrd n ps l src a)) H := by
  refine AFunC.of_body Tryz.func11 (by kernel_rfl) rfl (by kernel_rfl) (by simp [Tryz.ntmps11]) ?_
  have htp := hP.lt
  have ht := hS.lt
  have hu := hU.lt
  simp -dsimp -implicitDefEqProofs (disch := omega) [go_sem, -List.getD_eq_getElem?_getD, ite_yes, htp, ht, hu]
  refine ACall.of (canReopen_A n ps hps cp l hl c src _ tp t hP.app hS.app) ?_
  cases hq : askR n ps l src
  · simp -dsimp -implicitDefEqProofs (disch := omega) [go_sem, -List.getD_eq_getElem?_getD, ite_yes]
    exact fin_flat rfl (by rw [isOrd, hq, Bool.false_and])
  obtain ⟨hg, hN, hl10, hsrc, hs6⟩ := askR_at hq
  by_cases h10 : 10 < a.length
  · have h10' : (10 : Int) < (a.length : Int) := by omega
    simp -dsimp -implicitDefEqProofs (disch := omega) [go_sem, -List.getD_eq_getElem?_getD, ite_yes, h10, h10']
    exact fin_flat rfl (by rw [isOrd, hq, ordB, decide_eq_false (by omega)]; rfl)
  have h10' : ¬ (10 : Int) < (a.length : Int) := by omega
  simp -dsimp -implicitDefEqProofs (disch := omega) [go_sem, -List.getD_eq_getElem?_getD, ite_yes, h10, h10', htp, ht, hu]
  refine ACall.of (copyInts_A a ha d _ u hU.app) ?_
  simp -dsimp -implicitDefEqProofs (disch := omega) [go_sem, -List.getD_eq_getElem?_getD, ite_yes, htp, ht, hu]
  refine ACall.via (sort_R a (by omega) a.length 3 _ (H.length + 1) ((Heap.get_len_add _ _ 1).trans rfl)) ?_
  rintro v G ⟨m, rfl, h1, h2, rfl⟩
  have hml := h1.length_eq
  simp -dsimp -implicitDefEqProofs (disch := omega) [go_sem, -List.getD_eq_getElem?_getD, ite_yes, htp, ht, hu]
  refine ACall.of (shutIds_A l hl c _ t hS.app) ?_
  simp -dsimp -implicitDefEqProofs (disch := omega) [go_sem, -List.getD_eq_getElem?_getD, ite_yes, htp, ht, hu]
  refine ACall.of (hml ▸ equalNm_A m (shutL l) (by omega) (by omega) a.length 0 _ (H.length + 1) (H.length + 2) (Sl.of1 rfl) (Sl.nth 2 rfl rfl)) ?_
  simp -dsimp -implicitDefEqProofs (disch := omega) [go_sem, -List.getD_eq_getElem?_getD, ite_yes]
  exact fin_flat rfl (by rw [isOrd, hq, ordB_sorted hg h1 h2, Bool.true_and])
theorem l18Order_A (n : Int) (ps : List Pp) (hps : ps.length ≤ 1048577) (cp : Nat) (l : List Vl) (hl : l.length ≤ 1048577) (c : Nat) (src : Int) (a : List Int) (ha : a.length ≤ 1048577) (d : Nat) (H : Heap) (tp t u : Nat) (hP : Sl ppE H tp ps) (hS : Sl vlE H t l) (hU : Sl nmE H u a) :
    AFunC Tryz.prog 23 [netV n tp ps.length cp, .slice (some ⟨t, 0, none⟩) l.length c, .int .i64 src, .slice (some ⟨u, 0, none⟩) a.length d] H (.bool (isOrd n ps l src a)) H := by
  refine AFunC.of_body Tryz.func23 (by kernel_rfl) rfl (by kernel_rfl) (by simp [Tryz.ntmps23]) ?_
  have htp := hP.lt
  have ht := hS.lt
  have hu := hU.lt
  have hsl := shutL_length l
  have ca := fun k hk => hU.one (g := fun n => Value.int .i64 n) 0 k hk
  simp -dsimp -implicitDefEqProofs (disch := omega) [go_sem, -List.getD_eq_getElem?_getD, ite_yes, htp, ht, hu]
  refine ACall.of (l18Asked_A n ps hps cp l hl c src _ tp t hP.app hS.app) ?_
  cases hq : askR n ps l src
  · simp -dsimp -implicitDefEqProofs (disch := omega) [go_sem, -List.getD_eq_getElem?_getD, ite_yes]
    exact fin_flat rfl (by rw [isOrd, hq, Bool.false_and])
  obtain ⟨hg, hN, hl10, hsrc, hs6⟩ := askR_at hq
  simp -dsimp -implicitDefEqProofs (disch := omega) [go_sem, -List.getD_eq_getElem?_getD, ite_yes, htp, ht, hu]
  refine ACall.of (l18Shut_A l hl c _ t hS.app) ?_
  by_cases hlen : a.length = (shutL l).length
  rotate_left
  · have hlen' : ¬ (a.length : Int) = ((shutL l).length : Int) := by omega
    simp -dsimp -implicitDefEqProofs (disch := omega) [go_sem, -List.getD_eq_getElem?_getD, ite_yes, hlen, hlen']
    exact fin_flat rfl (by rw [isOrd, hq, ordB, decide_eq_false hlen]; rfl)
  have hlen' : (a.length : Int) = ((shutL l).length : Int) := by omega
  simp -dsimp -implicitDefEqProofs (disch := omega) [go_sem, -List.getD_eq_getElem?_getD, ite_yes, hlen, hlen', htp, ht, hu]
  refine ACall.of (l18Shut_A l hl c _ t hS.app) ?_
  simp -dsimp -implicitDefEqProofs (disch := omega) [go_sem, -List.getD_eq_getElem?_getD, ite_yes, htp, ht, hu]
  refine ALoop.intro (ι := Nat) (fun k => k ≤ a.length ∧ ordTo l a k) (fun k => [(3, .slice (some ⟨u, 0, none⟩) a.length d), (9, .slice (some ⟨H.length, 0, none⟩) (shutL l).length 0), (10, .int .i64 k)]) (fun _ => H ++ [some ⟨(shutL l).flatMap nmE, true, 3, 1⟩]) (fun k => a.length - k) 0 ⟨by omega, fun i hi => by omega⟩ ?_ ?_
  · refine weakS_mk [some 2] rfl ?_ (by simp -dsimp -implicitDefEqProofs (disch := omega) [go_sem, -List.getD_eq_getElem?_getD, ite_yes, hu]; omega)
    simp -dsimp -implicitDefEqProofs (disch := omega) [go_sem, -List.getD_eq_getElem?_getD, ite_yes]
    exact .inl ⟨rfl, nmE_flat _⟩
  rintro k ⟨hk, hf⟩
  have hno : k < a.length → (hasI (shutL l) (a.getD k 0) = false ∨ hasI (a.take k) (a.getD k 0) = true) → isOrd n ps l src a = false := fun hlt h => by
    rw [isOrd, hq, ordB, decide_eq_false (p := ordTo l a a.length) (fun h' => ?_)]
    · simp
    · have := h' k hlt
      rcases h with h | h
      · rw [this.1] at h; cases h
      · rw [this.2] at h; cases h
  by_cases hlt : k < a.length
  · have hltn : (k : Int) < (a.length : Int) := by omega
    have c1 := ca k hlt
    have hS2 : Sl nmE (H ++ [some ⟨(shutL l).flatMap nmE, true, 3, 1⟩]) H.length (shutL l) := Sl.of rfl
    have A1 := l1Has_A (shutL l) (a.getD k 0) (by omega) 0 _ H.length hS2.ro
    have A2 := l1Has_A (a.take k) (a.getD k 0) (by rw [List.length_take]; omega) k _ u ((hU.app (L := [some ⟨(shutL l).flatMap nmE, true, 3, 1⟩])).take k).ro
    rw [List.length_take_of_le hk] at A2
    have hz0 : ∀ x : Nat, (x = 0 ∨ x = x) := fun _ => .inr rfl
    simp -dsimp -implicitDefEqProofs (disch := omega) [go_sem, -List.getD_eq_getElem?_getD, ite_yes, hlt, hltn, hu]
    refine ADraw.quiet (by kernel_rfl) (by kernel_rfl) (by kernel_rfl) ?_
    simp -dsimp -implicitDefEqProofs (disch := omega) [go_sem, -List.getD_eq_getElem?_getD, ite_yes, hlt, hltn, hk, c1, hu]
    refine ACallQ.of A1 rfl ?_
    cases e1 : hasI (shutL l) (a.getD k 0)
    · simp -dsimp -implicitDefEqProofs (disch := omega) [go_sem, -List.getD_eq_getElem?_getD, ite_yes]
      exact fin_flat rfl (by rw [hno hlt (.inl e1)])
    simp -dsimp -implicitDefEqProofs (disch := omega) [go_sem, -List.getD_eq_getElem?_getD, ite_yes, hlt, hltn, hk, c1, hu]
    refine ACallQ.of A2 rfl ?_
    cases e2 : hasI (a.take k) (a.getD k 0)
    · simp -dsimp -implicitDefEqProofs (disch := omega) [go_sem, -List.getD_eq_getElem?_getD, ite_yes, hltn]
      refine LoopEnd.of (k + 1) ⟨by omega, fun i hi => ?_⟩ (by omega) (weakS_mk [some 0] rfl ?_ (by simp -dsimp -implicitDefEqProofs (disch := omega) [go_sem, -List.getD_eq_getElem?_getD, ite_yes, hu]))
      · rcases Nat.lt_or_ge i k with h' | h'
        · exact hf i h'
        · rw [show i = k by omega]; exact ⟨e1, e2⟩
      · simp -dsimp -implicitDefEqProofs (disch := omega) [go_sem, -List.getD_eq_getElem?_getD, ite_yes]
        exact .inl ⟨rfl, nmE_flat _⟩
    · simp -dsimp -implicitDefEqProofs (disch := omega) [go_sem, -List.getD_eq_getElem?_getD, ite_yes]
      exact fin_flat rfl (by rw [hno hlt (.inr e2)])
  · have hltn : ¬ (k : Int) < (a.length : Int) := by omega
    obtain rfl : k = a.length := by omega
    simp -dsimp -implicitDefEqProofs (disch := omega) [go_sem, -List.getD_eq_getElem?_getD, ite_yes, hltn]
    exact fin_flat rfl (by rw [isOrd, hq, ordB, decide_eq_true hlen, decide_eq_true hf]; rfl)
theorem sIsOrder_A (n : Int) (ps : List Pp) (hps : ps.length ≤ 1048577) (cp : Nat) (l : List Vl) (hl : l.length ≤ 1048577) (c : Nat) (src : Int) (a : List Int) (ha : a.length ≤ 1048577) (d : Nat) (H : Heap) (tp t u : Nat) (hP : Sl ppE H tp ps) (hS : Sl vlE H t l) (hU : Sl nmE H u a) :
    AFunC Tryz.prog 18 [netV n tp ps.length cp, .slice (some ⟨t, 0, none⟩) l.length c, .int .i64 src, .slice (some ⟨u, 0, none⟩) a.length d] H (.bool (isOrd n ps l src a)) H := by
  refine AFunC.of_body Tryz.func18 (by kernel_rfl) rfl (by kernel_rfl) (by simp [Tryz.ntmps18]) ?_
  have htp := hP.lt
  have ht := hS.lt
  have hu := hU.lt
  simp -dsimp -implicitDefEqProofs (disch := omega) [go_sem, -List.getD_eq_getElem?_getD, ite_yes, htp, ht, hu]
  refine ACall.of (l18Order_A n ps hps cp l hl c src a ha d _ tp t u hP.app hS.app hU.app) ?_
  simp -dsimp -implicitDefEqProofs (disch := omega) [go_sem, -List.getD_eq_getElem?_getD, ite_yes]
  exact fin_flat rfl rfl
end Go.Proofs.YtncblopbcnkinaaGreat
/- IsGentle: both sides. -/
namespace Go.Proofs.YtncblopbcnkinaaGreat
open Go.Am
set_option linter.unusedVariables false
set_option linter.unusedSimpArgs false
set_option maxRecDepth 100000
set_option maxHeartbeats 4000000

def vlIs (id : Int) (v : Vl) : Bool := decide (v.1 = id)
/-- the valve with an Id -/
def vlAt (l : List Vl) (id : Int) : Vl := l.getD (ixOf (vlIs id) l).toNat vl0
/-- whether water reaches the pipe or the node of a valve -/
def tchB (ps : List Pp) (R : List Bool) (v : Vl) : Bool := R.getD v.2.2.1.toNat false || R.getD (9 + (pipeIx ps v.2.1).toNat) false
theorem vl_ok {n : Int} {ps : List Pp} {l : List Vl} (h : goodV n ps l = true) {i : Nat} (hi : i < l.length) : (∃ q : Nat, pipeIx ps (l.getD i vl0).2.1 = (q : Int) ∧ q < ps.length) ∧ 1 ≤ (l.getD i vl0).2.2.1 ∧ (l.getD i vl0).2.2.1 ≤ n := by
  have hN := (goodV_net h).1
  unfold goodV at h
  simp only [Bool.and_eq_true, decide_eq_true_eq] at h
  have := h.2.2 i hi
  unfold oneV at this
  simp only [Bool.and_eq_true] at this
  have ho := this.2.2.1
  unfold onP at ho
  simp only [Bool.and_eq_true, Bool.or_eq_true, decide_eq_true_eq] at ho
  rcases ix_cases pp0 (pipeIs (l.getD i vl0).2.1) ps with ⟨h1, _⟩ | ⟨q, h1, h2, _⟩
  · have : pipeIx ps (l.getD i vl0).2.1 = -1 := h1
    omega
  · have hp : pipeIx ps (l.getD i vl0).2.1 = (q : Int) := h1
    rw [hp, Int.toNat_natCast] at ho
    have := hN.f_end q h2
    refine ⟨⟨q, hp, h2⟩, ?_⟩
    rcases ho.2 with e | e <;> omega
theorem shutTo_mem (l : List Vl) : ∀ (k : Nat), ∀ x ∈ shutTo l k, ∃ i, i < k ∧ x = (l.getD i vl0).1
  | 0, x, h => absurd h (by simp [shutTo])
  | k + 1, x, h => by
    rw [shutTo] at h
    split at h
    · rcases List.mem_append.1 h with h | h
      · obtain ⟨i, hi, e⟩ := shutTo_mem l k x h; exact ⟨i, by omega, e⟩
      · exact ⟨k, by omega, List.mem_singleton.1 h⟩
    · obtain ⟨i, hi, e⟩ := shutTo_mem l k x h; exact ⟨i, by omega, e⟩
theorem vlIs_ix {l : List Vl} {id : Int} (h : hasI (shutL l) id = true) : ∃ q : Nat, ixOf (vlIs id) l = (q : Int) ∧ q < l.length ∧ vlAt l id = l.getD q vl0 := by
  obtain ⟨i, hi, e⟩ := shutTo_mem l l.length id (of_decide_eq_true h)
  rcases ix_cases vl0 (vlIs id) l with ⟨_, h2⟩ | ⟨q, h1, h2, _⟩
  · have := of_decide_eq_false (h2 i hi)
    exact absurd e.symm this
  · exact ⟨q, h1, h2, by rw [vlAt, h1, Int.toNat_natCast]⟩
theorem valveIndex1_A (v : Vl) (id : Int) (H : Heap) (u : Nat) (hl : u < H.length) (cu : aCells H ⟨u, 0, none⟩ 1 = some [.int .i64 id]) :
    AFunC Tryz.prog 85 [.agg #[.int .i64 v.1, .int .i64 v.2.1, .int .i64 v.2.2.1, .bool v.2.2.2], .pointer (some ⟨u, 0, none⟩)] H (.bool (vlIs id v)) H := by
  refine AFunC.of_body Tryz.func85 (by kernel_rfl) rfl (by kernel_rfl) (by simp [Tryz.ntmps85]) ?_
  simp -dsimp -implicitDefEqProofs (disch := omega) [go_sem, -List.getD_eq_getElem?_getD, ite_yes, cu, hl]
  exact fin_flat rfl rfl
theorem valveIndex_A (l : List Vl) (hl : l.length ≤ 1048577) (c : Nat) (id : Int) (H : Heap) (t : Nat) (hS : Sl vlE H t l) :
    AFunC Tryz.prog 58 [.slice (some ⟨t, 0, none⟩) l.length c, .int .i64 id] H (.int .i64 (ixOf (vlIs id) l)) H := by
  refine AFunC.of_body Tryz.func58 (by kernel_rfl) rfl (by kernel_rfl) (by simp [Tryz.ntmps58]) ?_
  have ht := hS.lt
  simp -dsimp -implicitDefEqProofs (disch := omega) [go_sem, -List.getD_eq_getElem?_getD, ite_yes, ht]
  have A := indexFuncVl_A l (vlIs id) 85 #[.pointer (some ⟨H.length, 0, none⟩)] hl c (H ++ [some ⟨[.int .i64 id], true, 3, 1⟩]) t hS.app (by simp -dsimp -implicitDefEqProofs (disch := omega) [go_sem, -List.getD_eq_getElem?_getD, ite_yes, ht])
    (fun k hk => valveIndex1_A _ _ _ _ (by simp) (by simp -dsimp -implicitDefEqProofs (disch := omega) [go_sem, -List.getD_eq_getElem?_getD, ite_yes, ht]))
  refine ACall.of A ?_
  simp -dsimp -implicitDefEqProofs (disch := omega) [go_sem, -List.getD_eq_getElem?_getD, ite_yes]
  exact fin_flat rfl rfl
theorem l4Find_A (l : List Vl) (hl : l.length ≤ 1048577) (c : Nat) (id : Int) (H : Heap) (t : Nat) (hS : Sl vlE H t l) :
    AFunC Tryz.prog 102 [.slice (some ⟨t, 0, none⟩) l.length c, .int .i64 id] H (.int .i64 (ixOf (vlIs id) l)) H := by
  refine AFunC.of_body Tryz.func102 (by kernel_rfl) rfl (by kernel_rfl) (by simp [Tryz.ntmps102]) ?_
  have ht := hS.lt
  have c0 := fun k hk => hS.cell (s := 4) (fun _ => rfl) vl0 k 0 hk (by omega)
  simp only [vlE, Nat.add_zero] at c0
  have hr := found_ix vl0 (vlIs id) l
  generalize ixOf (vlIs id) l = r at hr
  simp -dsimp -implicitDefEqProofs (disch := omega) [go_sem, -List.getD_eq_getElem?_getD, ite_yes]
  refine ALoop.intro (ι := Nat) (fun k => k ≤ l.length ∧ findTo vl0 (vlIs id) l k) (fun k => [(0, .slice (some ⟨t, 0, none⟩) l.length c), (1, .int .i64 id), (5, .int .i64 k)]) (fun _ => H) (fun k => l.length - k) 0 ⟨by omega, fun i hi => by omega⟩ ?_ ?_
  · exact weakS_same (by simp -dsimp -implicitDefEqProofs (disch := omega) [go_sem, -List.getD_eq_getElem?_getD, ite_yes, ht])
  · rintro k ⟨hk, hf⟩
    by_cases hlt : k < l.length
    · have c0' := c0 k hlt
      by_cases h : (l.getD k vl0).1 = id
      · simp -dsimp -implicitDefEqProofs (disch := omega) [go_sem, -List.getD_eq_getElem?_getD, ite_yes, hlt, c0', h]
        exact fin_flat0 rfl (by rw [found_uniq hr (.yes k hlt (decide_eq_true h) hf)])
      · simp -dsimp -implicitDefEqProofs (disch := omega) [go_sem, -List.getD_eq_getElem?_getD, ite_yes, hlt, c0', h]
        exact LoopEnd.of (k + 1) ⟨by omega, hf.next (decide_eq_false h)⟩ (by omega) (weakS_same (by simp -dsimp -implicitDefEqProofs (disch := omega) [go_sem, -List.getD_eq_getElem?_getD, ite_yes, ht]))
    · simp -dsimp -implicitDefEqProofs (disch := omega) [go_sem, -List.getD_eq_getElem?_getD, ite_yes, hlt]
      obtain rfl : k = l.length := by omega
      exact fin_flat0 rfl (by rw [found_uniq hr (.no hf)])
theorem touches_A (n : Int) (ps : List Pp) (hps : ps.length ≤ 10) (cp : Nat) (R : List Bool) (hR : R.length = 19) (v : Vl) (hv : 1 ≤ v.2.2.1 ∧ v.2.2.1 ≤ 8) (q : Nat) (hq : pipeIx ps v.2.1 = (q : Int)) (hql : q < ps.length) (H : Heap) (tp u : Nat) (hP : Sl ppE H tp ps) (hU : Sl blE H u R) :
    AFunC Tryz.prog 59 [netV n tp ps.length cp, .pointer (some ⟨u, 0, none⟩), .agg #[.int .i64 v.1, .int .i64 v.2.1, .int .i64 v.2.2.1, .bool v.2.2.2]] H (.bool (tchB ps R v)) H := by
  refine AFunC.of_body Tryz.func59 (by kernel_rfl) rfl (by kernel_rfl) (by simp [Tryz.ntmps59]) ?_
  have htp := hP.lt
  have htu := hU.lt
  obtain ⟨v1, v2, v3, v4⟩ := v
  simp only at hv hq
  obtain ⟨a, rfl⟩ : ∃ a : Nat, v3 = (a : Int) := ⟨v3.toNat, by omega⟩
  have cu := fun k hk => hU.one (g := Value.bool) false k hk
  have ca := cu a (by omega)
  have cb := cu (9 + q) (by omega)
  have ha : a < 19 := by omega
  have hq9 : (9 + (q : Int)).toNat = 9 + q := by omega
  have ht : tchB ps R (v1, v2, (a : Int), v4) = (R.getD a false || R.getD (9 + q) false) := by unfold tchB; rw [hq]; rfl
  simp -dsimp -implicitDefEqProofs (disch := omega) [go_sem, -List.getD_eq_getElem?_getD, ite_yes, htp, htu]
  refine ADraw.quiet (by kernel_rfl) (by kernel_rfl) (by kernel_rfl) ?_
  cases e1 : R.getD a false
  · rw [e1] at ca ht
    simp -dsimp -implicitDefEqProofs (disch := omega) [go_sem, -List.getD_eq_getElem?_getD, ite_yes, htp, htu, ca, ha]
    refine ACallQ.of (pipeIndex_A n ps (by omega) cp v2 _ tp hP.app.ro) rfl ?_
    rw [hq]
    simp -dsimp -implicitDefEqProofs (disch := omega) [go_sem, -List.getD_eq_getElem?_getD, ite_yes, htp, htu]
    refine ACallQ.of (element_A q (by omega) _) rfl ?_
    simp -dsimp -implicitDefEqProofs (disch := omega) [go_sem, -List.getD_eq_getElem?_getD, ite_yes, htp, htu, cb, hq9]
    exact fin_flat rfl (by rw [ht]; rfl)
  · rw [e1] at ca ht
    simp -dsimp -implicitDefEqProofs (disch := omega) [go_sem, -List.getD_eq_getElem?_getD, ite_yes, htp, htu, ca, ha]
    exact fin_flat rfl (by rw [ht]; rfl)
theorem mem_dryN {R : List Bool} {j : Nat} : ∀ k, (((j : Nat) : Int) ∈ dryN R k) ↔ (1 ≤ j ∧ j ≤ k ∧ R.getD j false = false)
  | 0 => by simp [dryN]; omega
  | k + 1 => by
    rw [dryN]
    have ih := mem_dryN (R := R) (j := j) k
    split
    · rename_i h
      rw [ih]
      constructor
      · rintro ⟨h1, h2, h3⟩; exact ⟨h1, by omega, h3⟩
      · rintro ⟨h1, h2, h3⟩
        refine ⟨h1, ?_, h3⟩
        rcases Nat.lt_or_ge j (k + 1) with h' | h'
        · omega
        · obtain rfl : j = k + 1 := by omega
          rw [h] at h3; cases h3
    · rename_i h
      rw [List.mem_append, ih, List.mem_singleton]
      constructor
      · rintro (⟨h1, h2, h3⟩ | e)
        · exact ⟨h1, by omega, h3⟩
        · obtain rfl : j = k + 1 := by omega
          exact ⟨by omega, by omega, by simpa using h⟩
      · rintro ⟨h1, h2, h3⟩
        rcases Nat.lt_or_ge j (k + 1) with h' | h'
        · exact .inl ⟨h1, by omega, h3⟩
        · exact .inr (by omega)
theorem mem_dryP {R : List Bool} {j : Nat} : ∀ k, (((j : Nat) : Int) ∈ dryP R k) ↔ (j < k ∧ R.getD (9 + j) false = false)
  | 0 => by simp [dryP]
  | k + 1 => by
    rw [dryP]
    have ih := mem_dryP (R := R) (j := j) k
    split
    · rename_i h
      rw [ih]
      constructor
      · rintro ⟨h2, h3⟩; exact ⟨by omega, h3⟩
      · rintro ⟨h2, h3⟩
        refine ⟨?_, h3⟩
        rcases Nat.lt_or_ge j k with h' | h'
        · omega
        · obtain rfl : j = k := by omega
          rw [h] at h3; cases h3
    · rename_i h
      rw [List.mem_append, ih, List.mem_singleton]
      constructor
      · rintro (⟨h2, h3⟩ | e)
        · exact ⟨by omega, h3⟩
        · obtain rfl : j = k := by omega
          exact ⟨by omega, by simpa using h⟩
      · rintro ⟨h2, h3⟩
        rcases Nat.lt_or_ge j k with h' | h'
        · exact .inl ⟨h', h3⟩
        · exact .inr (by omega)
theorem has_dryN {R : List Bool} {j k : Nat} (h1 : 1 ≤ j) (h2 : j ≤ k) : hasI (dryN R k) (j : Int) = !R.getD j false := by
  unfold hasI
  rw [decide_eq_decide.2 (mem_dryN k)]
  by_cases h : R.getD j false = true
  · rw [show (!R.getD j false) = false by rw [h]; rfl]
    exact decide_eq_false fun h' => by rw [h] at h'; cases h'.2.2
  · have h' : R.getD j false = false := by simpa using h
    rw [show (!R.getD j false) = true by rw [h']; rfl]
    exact decide_eq_true ⟨h1, h2, h'⟩
theorem has_dryP {R : List Bool} {j k : Nat} (h2 : j < k) : hasI (dryP R k) (j : Int) = !R.getD (9 + j) false := by
  unfold hasI
  rw [decide_eq_decide.2 (mem_dryP k)]
  by_cases h : R.getD (9 + j) false = true
  · rw [show (!R.getD (9 + j) false) = false by rw [h]; rfl]
    exact decide_eq_false fun h' => by rw [h] at h'; cases h'.2
  · have h' : R.getD (9 + j) false = false := by simpa using h
    rw [show (!R.getD (9 + j) false) = true by rw [h']; rfl]
    exact decide_eq_true ⟨h2, h'⟩
theorem opL_congr (l : List Vl) {a b : List Int} (h : ∀ x, hasI a x = hasI b x) : opL l a = opL l b := by
  refine List.ext_getElem (by rw [opL_length, opL_length]) fun i h1 h2 => ?_
  rw [opL_length] at h1
  have e1 := opL_getD l a h1
  have e2 := opL_getD l b h1
  have : opV a (l.getD i vl0) = opV b (l.getD i vl0) := by unfold opV; rw [h]
  rw [this, ← e2, List.getD_eq_getElem?_getD, List.getElem?_eq_getElem (by rw [opL_length]; exact h1), List.getD_eq_getElem?_getD, List.getElem?_eq_getElem (by rw [opL_length]; exact h1)] at e1
  simpa using e1
theorem opL_perm (l : List Vl) {a b : List Int} (h : a.Perm b) : opL l a = opL l b := opL_congr l fun x => by unfold hasI; rw [decide_eq_decide]; exact h.mem_iff
/-- whether water reaches a valve after some are opened -/
def rchB (ps : List Pp) (l : List Vl) (src : Int) (ids : List Int) (id : Int) : Bool := tchB ps (wetR ps (opL l ids) src) (vlAt l id)
/-- whether a step is gentle -/
def gtlB (ps : List Pp) (l : List Vl) (src : Int) (a : List Int) (k : Nat) : Bool := rchB ps l src (a.take k) (a.getD k 0) || !rchB ps l src (shutL l) (a.getD k 0)
def gtlTo (ps : List Pp) (l : List Vl) (src : Int) (a : List Int) (k : Nat) : Prop := ∀ i, i < k → gtlB ps l src a i = true
instance gtlTo_dec (ps : List Pp) (l : List Vl) (src : Int) (a : List Int) (k : Nat) : Decidable (gtlTo ps l src a k) := by unfold gtlTo; infer_instance
def gtlN (ps : List Pp) (l : List Vl) (src : Int) (a : List Int) : Bool := decide (gtlTo ps l src a a.length)
theorem gtlN_no {ps : List Pp} {l : List Vl} {src : Int} {a : List Int} {k : Nat} (hk : k < a.length) (h : gtlB ps l src a k = false) : gtlN ps l src a = false :=
  decide_eq_false fun h' => by have := h' k hk; rw [h] at this; cases this
theorem gtlTo.next {ps : List Pp} {l : List Vl} {src : Int} {a : List Int} {k : Nat} (h : gtlTo ps l src a k) (h1 : gtlB ps l src a k = true) : gtlTo ps l src a (k + 1) := by
  intro i hi
  rcases Nat.lt_or_ge i k with h' | h'
  · exact h i h'
  · obtain rfl : i = k := by omega
    exact h1
theorem l18Reached_A (n : Int) (ps : List Pp) (cp : Nat) (l : List Vl) (hg : goodV n ps l = true) (c : Nat) (src : Int) (hsrc : 1 ≤ src ∧ src ≤ n) (ids : List Int) (hi : ids.length ≤ 1048577) (d o : Nat) (id : Int) (hid : hasI (shutL l) id = true) (H : Heap) (tp t u : Nat) (hP : Sl ppE H tp ps) (hS : Sl vlE H t l) (hU : IdS H u o ids) :
    AFunC Tryz.prog 70 [netV n tp ps.length cp, .slice (some ⟨t, 0, none⟩) l.length c, .int .i64 src, .slice (some ⟨u, o, none⟩) ids.length d, .int .i64 id] H (.bool (rchB ps l src ids id)) H := by
  refine AFunC.of_body Tryz.func70 (by kernel_rfl) rfl (by kernel_rfl) (by simp [Tryz.ntmps70]) ?_
  have htp := hP.lt
  have ht := hS.lt
  have hu := hU.lt
  obtain ⟨hN, hl⟩ := goodV_net hg
  have hpl := hN.f_len
  have hn := hN.f_n
  obtain ⟨q, hq, hql, hqv⟩ := vlIs_ix hid
  obtain ⟨⟨r, hr, hrl⟩, hv1, hv2⟩ := vl_ok hg hql
  have cs := hS.cells (s := 4) (fun _ => rfl) vl0 q hql
  simp only [vlE] at cs
  have hrb : rchB ps l src ids id = ((!hasI (dryN (wetR ps (opL l ids) src) n.toNat) (l.getD q vl0).2.2.1) || !hasI (dryP (wetR ps (opL l ids) src) ps.length) (r : Int)) := by
    obtain ⟨a, ha⟩ : ∃ a : Nat, (l.getD q vl0).2.2.1 = (a : Int) := ⟨(l.getD q vl0).2.2.1.toNat, by omega⟩
    unfold rchB tchB
    rw [hqv, hr, ha, Int.toNat_natCast, Int.toNat_natCast, has_dryN (by omega) (by omega), has_dryP hrl, Bool.not_not, Bool.not_not]
  have hdn := dryN_length (wetR ps (opL l ids) src) n.toNat
  have hdp := dryP_length (wetR ps (opL l ids) src) ps.length
  generalize hDn : dryN (wetR ps (opL l ids) src) n.toNat = Dn at *
  generalize hDp : dryP (wetR ps (opL l ids) src) ps.length = Dp at *
  have A := opL_length l ids ▸ l4Dry_A n ps hN cp (opL l ids) (by rw [opL_length]; omega) 0 src hsrc
  rw [hDn, hDp] at A
  simp -dsimp -implicitDefEqProofs (disch := omega) [go_sem, -List.getD_eq_getElem?_getD, ite_yes, htp, ht, hu]
  refine ADraw.mid [(1, .slice (some ⟨t, 0, none⟩) l.length c), (4, .int .i64 id), (5, .pointer (some ⟨H.length, 0, none⟩)), (11, .slice (some ⟨H.length + 1, 0, none⟩) Dn.length 0), (12, .slice (some ⟨H.length + 2, 0, none⟩) Dp.length 0)] (H ++ [some ⟨[.int .i64 n, .slice (some ⟨tp, 0, none⟩) ps.length cp], true, 26, 1⟩, some ⟨Dn.flatMap nmE, true, 3, 1⟩, some ⟨Dp.flatMap nmE, true, 3, 1⟩]) ?_ ?_
  · skip
    refine ADraw.any H (by kernel_rfl) (by first | exact SubH.refl | exact SubH.app | exact SubH.both (by simp [subL])) ?_
    refine AAny.takes (fuel := 8) (by kernel_rfl) (by kernel_rfl) [1, 2, 4] (by kernel_rfl) (by kernel_rfl) ?_
    simp -dsimp -implicitDefEqProofs (disch := omega) [go_sem, -List.getD_eq_getElem?_getD, ite_yes, htp, ht, hu]
    refine AAny.two 7 0 3 (by kernel_rfl) (by kernel_rfl) (by kernel_rfl) ?_ ?_
    · simp -dsimp -implicitDefEqProofs (disch := omega) [go_sem, -List.getD_eq_getElem?_getD, ite_yes, htp, ht, hu]
      refine AAt.of1 ?_
      refine AAny.one1 6 3 ?_
      simp -dsimp -implicitDefEqProofs (disch := omega) [go_sem, -List.getD_eq_getElem?_getD, ite_yes, htp, ht, hu]
      refine ACall.of (l18Opened_A l (by omega) c ids hi d o _ t u hS.app hU.app) ?_
      simp -dsimp -implicitDefEqProofs (disch := omega) [go_sem, -List.getD_eq_getElem?_getD, ite_yes, htp, ht, hu]
      refine AAt.of1 ?_
      refine AAny.one1 5 5 ?_
      simp -dsimp -implicitDefEqProofs (disch := omega) [go_sem, -List.getD_eq_getElem?_getD, ite_yes, htp, ht, hu]
      refine ACall.of (A _ tp (H.length + 1) hP.app (Sl.of1 rfl)) ?_
      simp -dsimp -implicitDefEqProofs (disch := omega) [go_sem, -List.getD_eq_getElem?_getD, ite_yes, htp, ht, hu]
      refine AAt.of1 ?_
      refine AAny.takes (fuel := 0) (by kernel_rfl) (by kernel_rfl) [6, 7, 8, 9, 10] (by kernel_rfl) (by kernel_rfl) ?_
      simp -dsimp -implicitDefEqProofs (disch := omega) [go_sem, -List.getD_eq_getElem?_getD, ite_yes, htp, ht, hu]
      refine AAny.done (by kernel_rfl) ?_
      simp -dsimp -implicitDefEqProofs (disch := omega) [go_sem, -List.getD_eq_getElem?_getD, ite_yes, htp, ht, hu]
      exact ⟨weakS_mk [some 0, some 2, some 3] rfl (by simp -dsimp -implicitDefEqProofs (disch := omega) [go_sem, -List.getD_eq_getElem?_getD, ite_yes]; exact ⟨wl_net htp, .inl ⟨rfl, nmE_flat _⟩, .inl ⟨rfl, nmE_flat _⟩⟩) (by simp -dsimp -implicitDefEqProofs (disch := omega) [go_sem, -List.getD_eq_getElem?_getD, ite_yes, htp, ht])⟩
    · simp -dsimp -implicitDefEqProofs (disch := omega) [go_sem, -List.getD_eq_getElem?_getD, ite_yes, htp, ht, hu]
      refine ACall.of (l18Opened_A l (by omega) c ids hi d o _ t u hS.app hU.app) ?_
      simp -dsimp -implicitDefEqProofs (disch := omega) [go_sem, -List.getD_eq_getElem?_getD, ite_yes, htp, ht, hu]
      refine AAt.of1 ?_
      refine AAny.one1 6 0 ?_
      simp -dsimp -implicitDefEqProofs (disch := omega) [go_sem, -List.getD_eq_getElem?_getD, ite_yes, htp, ht, hu]
      refine AAt.of1 ?_
      refine AAny.one1 5 5 ?_
      simp -dsimp -implicitDefEqProofs (disch := omega) [go_sem, -List.getD_eq_getElem?_getD, ite_yes, htp, ht, hu]
      refine ACall.of (A _ tp (H.length + 1) hP.app (Sl.of1 rfl)) ?_
      simp -dsimp -implicitDefEqProofs (disch := omega) [go_sem, -List.getD_eq_getElem?_getD, ite_yes, htp, ht, hu]
      refine AAt.of1 ?_
      refine AAny.takes (fuel := 0) (by kernel_rfl) (by kernel_rfl) [6, 7, 8, 9, 10] (by kernel_rfl) (by kernel_rfl) ?_
      simp -dsimp -implicitDefEqProofs (disch := omega) [go_sem, -List.getD_eq_getElem?_getD, ite_yes, htp, ht, hu]
      refine AAny.done (by kernel_rfl) ?_
      simp -dsimp -implicitDefEqProofs (disch := omega) [go_sem, -List.getD_eq_getElem?_getD, ite_yes, htp, ht, hu]
      exact ⟨weakS_mk [some 0, some 2, some 3] rfl (by simp -dsimp -implicitDefEqProofs (disch := omega) [go_sem, -List.getD_eq_getElem?_getD, ite_yes]; exact ⟨wl_net htp, .inl ⟨rfl, nmE_flat _⟩, .inl ⟨rfl, nmE_flat _⟩⟩) (by simp -dsimp -implicitDefEqProofs (disch := omega) [go_sem, -List.getD_eq_getElem?_getD, ite_yes, htp, ht])⟩
  simp -dsimp -implicitDefEqProofs (disch := omega) [go_sem, -List.getD_eq_getElem?_getD, ite_yes, htp, ht]
  refine ACall.of (l4Find_A l (by omega) c id _ t hS.app) ?_
  rw [hq]
  have hqi : (q : Int) < (l.length : Int) := by omega
  simp -dsimp -implicitDefEqProofs (disch := omega) [go_sem, -List.getD_eq_getElem?_getD, ite_yes, htp, ht, hqi, hql, cs]
  refine ACall.of (l1Has_A Dn (l.getD q vl0).2.2.1 (by omega) 0 _ (H.length + 1) (Sl.of1 rfl)) ?_
  cases e1 : hasI Dn (l.getD q vl0).2.2.1
  · simp -dsimp -implicitDefEqProofs (disch := omega) [go_sem, -List.getD_eq_getElem?_getD, ite_yes]
    exact fin_flat rfl (by rw [hrb, e1]; rfl)
  simp -dsimp -implicitDefEqProofs (disch := omega) [go_sem, -List.getD_eq_getElem?_getD, ite_yes, htp, ht]
  refine ACall.of (l2Find_A n ps (by omega) cp (l.getD q vl0).2.1 _ tp hP.app) ?_
  rw [hr]
  simp -dsimp -implicitDefEqProofs (disch := omega) [go_sem, -List.getD_eq_getElem?_getD, ite_yes, htp, ht]
  refine ACall.of (l1Has_A Dp (r : Int) (by omega) 0 _ (H.length + 2) (Sl.nth 2 rfl rfl)) ?_
  simp -dsimp -implicitDefEqProofs (disch := omega) [go_sem, -List.getD_eq_getElem?_getD, ite_yes]
  exact fin_flat rfl (by rw [hrb, e1]; rfl)
end Go.Proofs.YtncblopbcnkinaaGreat
/- Helpers of the laws on Network. -/
namespace Go.Proofs.YtncblopbcnkinaaGreat
open Go.Am
set_option linter.unusedVariables false
set_option linter.unusedSimpArgs false
set_option maxRecDepth 100000
set_option maxHeartbeats 2000000

end Go.Proofs.YtncblopbcnkinaaGreat
/- IsGentle: both sides, and the law. -/
namespace Go.Proofs.YtncblopbcnkinaaGreat
open Go.Am
set_option linter.unusedVariables false
set_option linter.unusedSimpArgs false
set_option maxRecDepth 100000
set_option maxHeartbeats 4000000

theorem l18Gentle_A (n : Int) (ps : List Pp) (cp : Nat) (l : List Vl) (hg : goodV n ps l = true) (c : Nat) (src : Int) (hsrc : 1 ≤ src ∧ src ≤ n) (ids : List Int) (hi : ids.length ≤ 1048577) (d o : Nat) (id : Int) (hid : hasI (shutL l) id = true) (H : Heap) (tp t u : Nat) (hP : Sl ppE H tp ps) (hS : Sl vlE H t l) (hU : IdS H u o ids) :
    AFunC Tryz.prog 40 [netV n tp ps.length cp, .slice (some ⟨t, 0, none⟩) l.length c, .int .i64 src, .slice (some ⟨u, o, none⟩) ids.length d, .int .i64 id] H (.bool (rchB ps l src ids id || !rchB ps l src (shutL l) id)) H := by
  refine AFunC.of_body Tryz.func40 (by kernel_rfl) rfl (by kernel_rfl) (by simp [Tryz.ntmps40]) ?_
  have htp := hP.lt
  have ht := hS.lt
  have hu := hU.lt
  obtain ⟨hN, hl⟩ := goodV_net hg
  have hsl := shutL_length l
  simp -dsimp -implicitDefEqProofs (disch := omega) [go_sem, -List.getD_eq_getElem?_getD, ite_yes, htp, ht, hu]
  cases e1 : rchB ps l src ids id
  · refine ADraw.any H (by kernel_rfl) (by first | exact SubH.refl | exact SubH.app | exact SubH.both (by simp [subL])) ?_
    refine AAny.takes (fuel := 13) (by kernel_rfl) (by kernel_rfl) [1, 2, 3, 4] (by kernel_rfl) (by kernel_rfl) ?_
    simp -dsimp -implicitDefEqProofs (disch := omega) [go_sem, -List.getD_eq_getElem?_getD, ite_yes, htp, ht, hu, e1]
    refine AAny.one 12 0 (by kernel_rfl) (by kernel_rfl) (by kernel_rfl) ?_
    simp -dsimp -implicitDefEqProofs (disch := omega) [go_sem, -List.getD_eq_getElem?_getD, ite_yes, htp, ht, hu, e1]
    first | refine AAt.of (by first | exact SubH.refl | exact SubH.app | exact SubH.both (by simp [subL])) ?_ | (refine ⟨?_, AAt.of (by first | exact SubH.refl | exact SubH.app | exact SubH.both (by simp [subL])) ?_⟩; · omega)
    refine AAny.one 11 5 (by kernel_rfl) (by kernel_rfl) (by kernel_rfl) ?_
    simp -dsimp -implicitDefEqProofs (disch := omega) [go_sem, -List.getD_eq_getElem?_getD, ite_yes, htp, ht, hu, e1]
    refine ACall.of (l18Reached_A n ps cp l hg c src hsrc ids hi d o id hid _ tp t u hP.app hS.app hU.app) ?_
    simp -dsimp -implicitDefEqProofs (disch := omega) [go_sem, -List.getD_eq_getElem?_getD, ite_yes, htp, ht, hu, e1]
    first | refine AAt.of (by first | exact SubH.refl | exact SubH.app | exact SubH.both (by simp [subL])) ?_ | (refine ⟨?_, AAt.of (by first | exact SubH.refl | exact SubH.app | exact SubH.both (by simp [subL])) ?_⟩; · omega)
    refine AAny.takes (fuel := 6) (by kernel_rfl) (by kernel_rfl) [6, 8, 9, 10, 12] (by kernel_rfl) (by kernel_rfl) ?_
    simp -dsimp -implicitDefEqProofs (disch := omega) [go_sem, -List.getD_eq_getElem?_getD, ite_yes, htp, ht, hu, e1]
    refine AAny.two 5 7 11 (by kernel_rfl) (by kernel_rfl) (by kernel_rfl) ?_ ?_
    · simp -dsimp -implicitDefEqProofs (disch := omega) [go_sem, -List.getD_eq_getElem?_getD, ite_yes, htp, ht, hu, e1]
      first | refine AAt.of (by first | exact SubH.refl | exact SubH.app | exact SubH.both (by simp [subL])) ?_ | (refine ⟨?_, AAt.of (by first | exact SubH.refl | exact SubH.app | exact SubH.both (by simp [subL])) ?_⟩; · omega)
      refine AAny.one 4 11 (by kernel_rfl) (by kernel_rfl) (by kernel_rfl) ?_
      simp -dsimp -implicitDefEqProofs (disch := omega) [go_sem, -List.getD_eq_getElem?_getD, ite_yes, htp, ht, hu, e1]
      refine ACall.of (l18Shut_A l (by omega) c _ t hS.app) ?_
      simp -dsimp -implicitDefEqProofs (disch := omega) [go_sem, -List.getD_eq_getElem?_getD, ite_yes, htp, ht, hu, e1]
      first | refine AAt.of (by first | exact SubH.refl | exact SubH.app | exact SubH.both (by simp [subL])) ?_ | (refine ⟨?_, AAt.of (by first | exact SubH.refl | exact SubH.app | exact SubH.both (by simp [subL])) ?_⟩; · omega)
      refine AAny.one 3 13 (by kernel_rfl) (by kernel_rfl) (by kernel_rfl) ?_
      simp -dsimp -implicitDefEqProofs (disch := omega) [go_sem, -List.getD_eq_getElem?_getD, ite_yes, htp, ht, hu, e1]
      refine ACall.of (l18Reached_A n ps cp l hg c src hsrc (shutL l) (by omega) 0 0 id hid _ tp t (H.length + 1) hP.app hS.app (IdS.of (Sl.of1 rfl))) ?_
      simp -dsimp -implicitDefEqProofs (disch := omega) [go_sem, -List.getD_eq_getElem?_getD, ite_yes, htp, ht, hu, e1]
      first | refine AAt.of (by first | exact SubH.refl | exact SubH.app | exact SubH.both (by simp [subL])) ?_ | (refine ⟨?_, AAt.of (by first | exact SubH.refl | exact SubH.app | exact SubH.both (by simp [subL])) ?_⟩; · omega)
      refine AAny.takes (fuel := 0) (by kernel_rfl) (by kernel_rfl) [14, 15, 16] (by kernel_rfl) (by kernel_rfl) ?_
      simp -dsimp -implicitDefEqProofs (disch := omega) [go_sem, -List.getD_eq_getElem?_getD, ite_yes, htp, ht, hu, e1]
      refine AAny.done (by kernel_rfl) ?_
      simp -dsimp -implicitDefEqProofs (disch := omega) [go_sem, -List.getD_eq_getElem?_getD, ite_yes, htp, ht, hu, e1]
      exact fin_flat rfl (by first | rfl | simp)
    · simp -dsimp -implicitDefEqProofs (disch := omega) [go_sem, -List.getD_eq_getElem?_getD, ite_yes, htp, ht, hu, e1]
      refine ACall.of (l18Shut_A l (by omega) c _ t hS.app) ?_
      simp -dsimp -implicitDefEqProofs (disch := omega) [go_sem, -List.getD_eq_getElem?_getD, ite_yes, htp, ht, hu, e1]
      first | refine AAt.of (by first | exact SubH.refl | exact SubH.app | exact SubH.both (by simp [subL])) ?_ | (refine ⟨?_, AAt.of (by first | exact SubH.refl | exact SubH.app | exact SubH.both (by simp [subL])) ?_⟩; · omega)
      refine AAny.one 4 7 (by kernel_rfl) (by kernel_rfl) (by kernel_rfl) ?_
      simp -dsimp -implicitDefEqProofs (disch := omega) [go_sem, -List.getD_eq_getElem?_getD, ite_yes, htp, ht, hu, e1]
      first | refine AAt.of (by first | exact SubH.refl | exact SubH.app | exact SubH.both (by simp [subL])) ?_ | (refine ⟨?_, AAt.of (by first | exact SubH.refl | exact SubH.app | exact SubH.both (by simp [subL])) ?_⟩; · omega)
      refine AAny.one 3 13 (by kernel_rfl) (by kernel_rfl) (by kernel_rfl) ?_
      simp -dsimp -implicitDefEqProofs (disch := omega) [go_sem, -List.getD_eq_getElem?_getD, ite_yes, htp, ht, hu, e1]
      refine ACall.of (l18Reached_A n ps cp l hg c src hsrc (shutL l) (by omega) 0 0 id hid _ tp t (H.length + 1) hP.app hS.app (IdS.of (Sl.of1 rfl))) ?_
      simp -dsimp -implicitDefEqProofs (disch := omega) [go_sem, -List.getD_eq_getElem?_getD, ite_yes, htp, ht, hu, e1]
      first | refine AAt.of (by first | exact SubH.refl | exact SubH.app | exact SubH.both (by simp [subL])) ?_ | (refine ⟨?_, AAt.of (by first | exact SubH.refl | exact SubH.app | exact SubH.both (by simp [subL])) ?_⟩; · omega)
      refine AAny.takes (fuel := 0) (by kernel_rfl) (by kernel_rfl) [14, 15, 16] (by kernel_rfl) (by kernel_rfl) ?_
      simp -dsimp -implicitDefEqProofs (disch := omega) [go_sem, -List.getD_eq_getElem?_getD, ite_yes, htp, ht, hu, e1]
      refine AAny.done (by kernel_rfl) ?_
      simp -dsimp -implicitDefEqProofs (disch := omega) [go_sem, -List.getD_eq_getElem?_getD, ite_yes, htp, ht, hu, e1]
      exact fin_flat rfl (by first | rfl | simp)
  · refine ADraw.any H (by kernel_rfl) (by first | exact SubH.refl | exact SubH.app | exact SubH.both (by simp [subL])) ?_
    refine AAny.takes (fuel := 13) (by kernel_rfl) (by kernel_rfl) [1, 2, 3, 4] (by kernel_rfl) (by kernel_rfl) ?_
    simp -dsimp -implicitDefEqProofs (disch := omega) [go_sem, -List.getD_eq_getElem?_getD, ite_yes, htp, ht, hu, e1]
    refine AAny.one 12 0 (by kernel_rfl) (by kernel_rfl) (by kernel_rfl) ?_
    simp -dsimp -implicitDefEqProofs (disch := omega) [go_sem, -List.getD_eq_getElem?_getD, ite_yes, htp, ht, hu, e1]
    first | refine AAt.of (by first | exact SubH.refl | exact SubH.app | exact SubH.both (by simp [subL])) ?_ | (refine ⟨?_, AAt.of (by first | exact SubH.refl | exact SubH.app | exact SubH.both (by simp [subL])) ?_⟩; · omega)
    refine AAny.one 11 5 (by kernel_rfl) (by kernel_rfl) (by kernel_rfl) ?_
    simp -dsimp -implicitDefEqProofs (disch := omega) [go_sem, -List.getD_eq_getElem?_getD, ite_yes, htp, ht, hu, e1]
    refine ACall.of (l18Reached_A n ps cp l hg c src hsrc ids hi d o id hid _ tp t u hP.app hS.app hU.app) ?_
    simp -dsimp -implicitDefEqProofs (disch := omega) [go_sem, -List.getD_eq_getElem?_getD, ite_yes, htp, ht, hu, e1]
    first | refine AAt.of (by first | exact SubH.refl | exact SubH.app | exact SubH.both (by simp [subL])) ?_ | (refine ⟨?_, AAt.of (by first | exact SubH.refl | exact SubH.app | exact SubH.both (by simp [subL])) ?_⟩; · omega)
    refine AAny.takes (fuel := 6) (by kernel_rfl) (by kernel_rfl) [6, 8, 9, 10, 12] (by kernel_rfl) (by kernel_rfl) ?_
    simp -dsimp -implicitDefEqProofs (disch := omega) [go_sem, -List.getD_eq_getElem?_getD, ite_yes, htp, ht, hu, e1]
    refine AAny.two 5 7 11 (by kernel_rfl) (by kernel_rfl) (by kernel_rfl) ?_ ?_
    · simp -dsimp -implicitDefEqProofs (disch := omega) [go_sem, -List.getD_eq_getElem?_getD, ite_yes, htp, ht, hu, e1]
      first | refine AAt.of (by first | exact SubH.refl | exact SubH.app | exact SubH.both (by simp [subL])) ?_ | (refine ⟨?_, AAt.of (by first | exact SubH.refl | exact SubH.app | exact SubH.both (by simp [subL])) ?_⟩; · omega)
      refine AAny.one 4 11 (by kernel_rfl) (by kernel_rfl) (by kernel_rfl) ?_
      simp -dsimp -implicitDefEqProofs (disch := omega) [go_sem, -List.getD_eq_getElem?_getD, ite_yes, htp, ht, hu, e1]
      first | refine AAt.of (by first | exact SubH.refl | exact SubH.app | exact SubH.both (by simp [subL])) ?_ | (refine ⟨?_, AAt.of (by first | exact SubH.refl | exact SubH.app | exact SubH.both (by simp [subL])) ?_⟩; · omega)
      refine AAny.one 3 13 (by kernel_rfl) (by kernel_rfl) (by kernel_rfl) ?_
      simp -dsimp -implicitDefEqProofs (disch := omega) [go_sem, -List.getD_eq_getElem?_getD, ite_yes, htp, ht, hu, e1]
      first | refine AAt.of (by first | exact SubH.refl | exact SubH.app | exact SubH.both (by simp [subL])) ?_ | (refine ⟨?_, AAt.of (by first | exact SubH.refl | exact SubH.app | exact SubH.both (by simp [subL])) ?_⟩; · omega)
      refine AAny.takes (fuel := 0) (by kernel_rfl) (by kernel_rfl) [14, 15, 16] (by kernel_rfl) (by kernel_rfl) ?_
      simp -dsimp -implicitDefEqProofs (disch := omega) [go_sem, -List.getD_eq_getElem?_getD, ite_yes, htp, ht, hu, e1]
      refine AAny.done (by kernel_rfl) ?_
      simp -dsimp -implicitDefEqProofs (disch := omega) [go_sem, -List.getD_eq_getElem?_getD, ite_yes, htp, ht, hu, e1]
      exact fin_flat rfl (by first | rfl | simp)
    · simp -dsimp -implicitDefEqProofs (disch := omega) [go_sem, -List.getD_eq_getElem?_getD, ite_yes, htp, ht, hu, e1]
      first | refine AAt.of (by first | exact SubH.refl | exact SubH.app | exact SubH.both (by simp [subL])) ?_ | (refine ⟨?_, AAt.of (by first | exact SubH.refl | exact SubH.app | exact SubH.both (by simp [subL])) ?_⟩; · omega)
      refine AAny.one 4 7 (by kernel_rfl) (by kernel_rfl) (by kernel_rfl) ?_
      simp -dsimp -implicitDefEqProofs (disch := omega) [go_sem, -List.getD_eq_getElem?_getD, ite_yes, htp, ht, hu, e1]
      first | refine AAt.of (by first | exact SubH.refl | exact SubH.app | exact SubH.both (by simp [subL])) ?_ | (refine ⟨?_, AAt.of (by first | exact SubH.refl | exact SubH.app | exact SubH.both (by simp [subL])) ?_⟩; · omega)
      refine AAny.one 3 13 (by kernel_rfl) (by kernel_rfl) (by kernel_rfl) ?_
      simp -dsimp -implicitDefEqProofs (disch := omega) [go_sem, -List.getD_eq_getElem?_getD, ite_yes, htp, ht, hu, e1]
      first | refine AAt.of (by first | exact SubH.refl | exact SubH.app | exact SubH.both (by simp [subL])) ?_ | (refine ⟨?_, AAt.of (by first | exact SubH.refl | exact SubH.app | exact SubH.both (by simp [subL])) ?_⟩; · omega)
      refine AAny.takes (fuel := 0) (by kernel_rfl) (by kernel_rfl) [14, 15, 16] (by kernel_rfl) (by kernel_rfl) ?_
      simp -dsimp -implicitDefEqProofs (disch := omega) [go_sem, -List.getD_eq_getElem?_getD, ite_yes, htp, ht, hu, e1]
      refine AAny.done (by kernel_rfl) ?_
      simp -dsimp -implicitDefEqProofs (disch := omega) [go_sem, -List.getD_eq_getElem?_getD, ite_yes, htp, ht, hu, e1]
      exact fin_flat rfl (by first | rfl | simp)
theorem sIsGentle_A (n : Int) (ps : List Pp) (hps : ps.length ≤ 1048577) (cp : Nat) (l : List Vl) (hl : l.length ≤ 1048577) (c : Nat) (src : Int) (a : List Int) (ha : a.length ≤ 1048577) (d : Nat) (H : Heap) (tp t u : Nat) (hP : Sl ppE H tp ps) (hS : Sl vlE H t l) (hU : Sl nmE H u a) :
    AFunC Tryz.prog 17 [netV n tp ps.length cp, .slice (some ⟨t, 0, none⟩) l.length c, .int .i64 src, .slice (some ⟨u, 0, none⟩) a.length d] H (.tuple #[.bool (isOrd n ps l src a && gtlN ps l src a), .bool (isOrd n ps l src a)]) H := by
  refine AFunC.of_body Tryz.func17 (by kernel_rfl) rfl (by kernel_rfl) (by simp [Tryz.ntmps17]) ?_
  have htp := hP.lt
  have ht := hS.lt
  have hu := hU.lt
  have ca := fun k hk => hU.one (g := fun n => Value.int .i64 n) 0 k hk
  simp -dsimp -implicitDefEqProofs (disch := omega) [go_sem, -List.getD_eq_getElem?_getD, ite_yes, htp, ht, hu]
  refine ACall.of (l18Order_A n ps hps cp l hl c src a ha d _ tp t u hP.app hS.app hU.app) ?_
  cases ho : isOrd n ps l src a
  · simp -dsimp -implicitDefEqProofs (disch := omega) [go_sem, -List.getD_eq_getElem?_getD, ite_yes]
    exact fin_flat rfl rfl
  unfold isOrd at ho
  rw [Bool.and_eq_true] at ho
  obtain ⟨hq, hob⟩ := ho
  obtain ⟨hg, hN, hl10, hsrc, hs6⟩ := askR_at hq
  have hor : ordTo l a a.length := by
    unfold ordB at hob
    simp only [Bool.and_eq_true, decide_eq_true_eq] at hob
    exact hob.2
  simp -dsimp -implicitDefEqProofs (disch := omega) [go_sem, -List.getD_eq_getElem?_getD, ite_yes, htp, ht, hu]
  refine ALoop.intro (ι := Nat) (fun k => k ≤ a.length ∧ gtlTo ps l src a k) (fun k => [(1, .slice (some ⟨t, 0, none⟩) l.length c), (2, .int .i64 src), (3, .slice (some ⟨u, 0, none⟩) a.length d), (4, .pointer (some ⟨H.length, 0, none⟩)), (10, .int .i64 k)]) (fun _ => H ++ [some ⟨[.int .i64 n, .slice (some ⟨tp, 0, none⟩) ps.length cp], true, 26, 1⟩]) (fun k => a.length - k) 0 ⟨by omega, fun i hi => by omega⟩ ?_ ?_
  · refine weakS_mk [some 0] rfl ?_ (by simp -dsimp -implicitDefEqProofs (disch := omega) [go_sem, -List.getD_eq_getElem?_getD, ite_yes, htp, ht, hu])
    simp -dsimp -implicitDefEqProofs (disch := omega) [go_sem, -List.getD_eq_getElem?_getD, ite_yes]
    exact wl_net htp
  rintro k ⟨hk, hf⟩
  by_cases hlt : k < a.length
  · have hltn : (k : Int) < (a.length : Int) := by omega
    have c1 := ca k hlt
    have A := fun (G : Heap) (h1 : Sl ppE G tp ps) (h2 : Sl vlE G t l) (h3 : IdS G u 0 (a.take k)) => l18Gentle_A n ps cp l hg c src hsrc (a.take k) (by rw [List.length_take]; omega) k 0 (a.getD k 0) (hor k hlt).1 G tp t u h1 h2 h3
    simp only [List.length_take_of_le hk] at A
    have hgb : gtlB ps l src a k = (rchB ps l src (a.take k) (a.getD k 0) || !rchB ps l src (shutL l) (a.getD k 0)) := rfl
    rw [← hgb] at A
    simp -dsimp -implicitDefEqProofs (disch := omega) [go_sem, -List.getD_eq_getElem?_getD, ite_yes, hlt, hltn, htp, ht, hu]
    cases e1 : gtlB ps l src a k <;> rw [e1] at A
    · refine ADraw.any H (by kernel_rfl) (by first | exact SubH.refl | exact SubH.app | exact SubH.both (by simp [subL])) ?_
      refine AAny.takes (fuel := 3) (by kernel_rfl) (by kernel_rfl) [1, 2, 3, 4, 5, 6, 7, 8, 9] (by kernel_rfl) (by kernel_rfl) ?_
      simp -dsimp -implicitDefEqProofs (disch := omega) [go_sem, -List.getD_eq_getElem?_getD, ite_yes, htp, ht, hu, hlt, hltn, hk, c1]
      refine AAny.one 2 0 (by kernel_rfl) (by kernel_rfl) (by kernel_rfl) ?_
      simp -dsimp -implicitDefEqProofs (disch := omega) [go_sem, -List.getD_eq_getElem?_getD, ite_yes, htp, ht, hu, hlt, hltn, hk, c1]
      first | refine AAt.of (by first | exact SubH.refl | exact SubH.app | exact SubH.both (by simp [subL])) ?_ | (refine ⟨?_, AAt.of (by first | exact SubH.refl | exact SubH.app | exact SubH.both (by simp [subL])) ?_⟩; · omega)
      refine AAny.one 1 10 (by kernel_rfl) (by kernel_rfl) (by kernel_rfl) ?_
      simp -dsimp -implicitDefEqProofs (disch := omega) [go_sem, -List.getD_eq_getElem?_getD, ite_yes, htp, ht, hu, hlt, hltn, hk, c1]
      refine ACall.of (A _ hP.app hS.app (IdS.of (hU.app.take k))) ?_
      simp -dsimp -implicitDefEqProofs (disch := omega) [go_sem, -List.getD_eq_getElem?_getD, ite_yes, htp, ht, hu, hlt, hltn, hk, c1]
      first | refine AAt.of (by first | exact SubH.refl | exact SubH.app | exact SubH.both (by simp [subL])) ?_ | (refine ⟨?_, AAt.of (by first | exact SubH.refl | exact SubH.app | exact SubH.both (by simp [subL])) ?_⟩; · omega)
      refine AAny.takes (fuel := 0) (by kernel_rfl) (by kernel_rfl) [11] (by kernel_rfl) (by kernel_rfl) ?_
      simp -dsimp -implicitDefEqProofs (disch := omega) [go_sem, -List.getD_eq_getElem?_getD, ite_yes, htp, ht, hu, hlt, hltn, hk, c1]
      refine AAny.done (by kernel_rfl) ?_
      simp -dsimp -implicitDefEqProofs (disch := omega) [go_sem, -List.getD_eq_getElem?_getD, ite_yes, htp, ht, hu, hlt, hltn, hk, c1]
      exact fin_flat rfl (by rw [gtlN_no hlt e1])
    · refine ADraw.any H (by kernel_rfl) (by first | exact SubH.refl | exact SubH.app | exact SubH.both (by simp [subL])) ?_
      refine AAny.takes (fuel := 3) (by kernel_rfl) (by kernel_rfl) [1, 2, 3, 4, 5, 6, 7, 8, 9] (by kernel_rfl) (by kernel_rfl) ?_
      simp -dsimp -implicitDefEqProofs (disch := omega) [go_sem, -List.getD_eq_getElem?_getD, ite_yes, htp, ht, hu, hlt, hltn, hk, c1]
      refine AAny.one 2 0 (by kernel_rfl) (by kernel_rfl) (by kernel_rfl) ?_
      simp -dsimp -implicitDefEqProofs (disch := omega) [go_sem, -List.getD_eq_getElem?_getD, ite_yes, htp, ht, hu, hlt, hltn, hk, c1]
      first | refine AAt.of (by first | exact SubH.refl | exact SubH.app | exact SubH.both (by simp [subL])) ?_ | (refine ⟨?_, AAt.of (by first | exact SubH.refl | exact SubH.app | exact SubH.both (by simp [subL])) ?_⟩; · omega)
      refine AAny.one 1 10 (by kernel_rfl) (by kernel_rfl) (by kernel_rfl) ?_
      simp -dsimp -implicitDefEqProofs (disch := omega) [go_sem, -List.getD_eq_getElem?_getD, ite_yes, htp, ht, hu, hlt, hltn, hk, c1]
      refine ACall.of (A _ hP.app hS.app (IdS.of (hU.app.take k))) ?_
      simp -dsimp -implicitDefEqProofs (disch := omega) [go_sem, -List.getD_eq_getElem?_getD, ite_yes, htp, ht, hu, hlt, hltn, hk, c1]
      first | refine AAt.of (by first | exact SubH.refl | exact SubH.app | exact SubH.both (by simp [subL])) ?_ | (refine ⟨?_, AAt.of (by first | exact SubH.refl | exact SubH.app | exact SubH.both (by simp [subL])) ?_⟩; · omega)
      refine AAny.takes (fuel := 0) (by kernel_rfl) (by kernel_rfl) [11] (by kernel_rfl) (by kernel_rfl) ?_
      simp -dsimp -implicitDefEqProofs (disch := omega) [go_sem, -List.getD_eq_getElem?_getD, ite_yes, htp, ht, hu, hlt, hltn, hk, c1]
      refine AAny.done (by kernel_rfl) ?_
      simp -dsimp -implicitDefEqProofs (disch := omega) [go_sem, -List.getD_eq_getElem?_getD, ite_yes, htp, ht, hu, hlt, hltn, hk, c1]
      refine LoopEnd.of (k + 1) ⟨by omega, hf.next e1⟩ (by omega) (weakS_mk [some 0] rfl ?_ (by simp -dsimp -implicitDefEqProofs (disch := omega) [go_sem, -List.getD_eq_getElem?_getD, ite_yes, htp, ht, hu]))
      simp -dsimp -implicitDefEqProofs (disch := omega) [go_sem, -List.getD_eq_getElem?_getD, ite_yes]
      exact wl_net htp
  · have hltn : ¬ (k : Int) < (a.length : Int) := by omega
    obtain rfl : k = a.length := by omega
    simp -dsimp -implicitDefEqProofs (disch := omega) [go_sem, -List.getD_eq_getElem?_getD, ite_yes, hltn]
    exact fin_flat rfl (by rw [gtlN, decide_eq_true hf])
theorem openedT_A (l : List Vl) (hl : l.length ≤ 1048577) (c : Nat) (a : List Int) (k : Nat) (hk : k ≤ a.length) (ha : a.length ≤ 1048577) (d : Nat) (H : Heap) (t u : Nat) (hS : Sl vlE H t l) (hU : Sl nmE H u a) :
    AFunC Tryz.prog 48 [.slice (some ⟨t, 0, none⟩) l.length c, .slice (some ⟨u, 0, none⟩) k d] H (.slice (some ⟨H.length, 0, none⟩) l.length 0) (H ++ [some ⟨(opL l (a.take k)).flatMap vlE, true, 71, 4⟩]) := by
  have := opened_A l hl c (a.take k) (by rw [List.length_take]; omega) d 0 H t u hS (IdS.of (hU.take k))
  rwa [List.length_take_of_le hk] at this
theorem wateredO_A (n : Int) (ps : List Pp) (cp : Nat) (l : List Vl) (hg : goodV n ps l = true) (c : Nat) (src : Int) (hsrc : 1 ≤ src ∧ src ≤ n) (ids : List Int) (H : Heap) (tp tv : Nat) (hP : Sl ppE H tp ps) (hV : Sl vlE H tv (opL l ids)) :
    AFunC Tryz.prog 57 [netV n tp ps.length cp, .slice (some ⟨tv, 0, none⟩) l.length c, .int .i64 src] H (.pointer (some ⟨H.length, 0, none⟩)) (H ++ [some ⟨(wetR ps (opL l ids) src).map .bool, true, 111, 1⟩]) := by
  have := watered_A n ps cp (opL l ids) (goodV_opL hg ids) c src hsrc H tp tv hP hV
  rwa [opL_length] at this
theorem isGentle_A (n : Int) (ps : List Pp) (cp : Nat) (l : List Vl) (c : Nat) (src : Int) (a : List Int) (ho : isOrd n ps l src a = true) (d : Nat) (H : Heap) (tp t u : Nat) (hP : Sl ppE H tp ps) (hS : Sl vlE H t l) (hU : Sl nmE H u a) :
    AFunC Tryz.prog 30 [netV n tp ps.length cp, .slice (some ⟨t, 0, none⟩) l.length c, .int .i64 src, .slice (some ⟨u, 0, none⟩) a.length d] H (.bool (gtlN ps l src a)) H := by
  refine AFunC.of_body Tryz.func30 (by kernel_rfl) rfl (by kernel_rfl) (by simp [Tryz.ntmps30]) ?_
  have htp := hP.lt
  have ht := hS.lt
  have hu := hU.lt
  have ca := fun k hk => hU.one (g := fun n => Value.int .i64 n) 0 k hk
  unfold isOrd at ho
  rw [Bool.and_eq_true] at ho
  obtain ⟨hq, hob⟩ := ho
  obtain ⟨hg, hN, hl10, hsrc, hs6⟩ := askR_at hq
  have hpl := hN.f_len
  have hn := hN.f_n
  have hperm := ordB_perm hob
  have hal := hperm.length_eq
  have hor : ordTo l a a.length := by
    unfold ordB at hob
    simp only [Bool.and_eq_true, decide_eq_true_eq] at hob
    exact hob.2
  have AO := openedT_A l (by omega) c a a.length (Nat.le_refl _) (by omega) d
  rw [List.take_length, opL_perm l hperm] at AO
  simp -dsimp -implicitDefEqProofs (disch := omega) [go_sem, -List.getD_eq_getElem?_getD, ite_yes, htp, ht, hu]
  refine ADraw.mid [(1, .slice (some ⟨t, 0, none⟩) l.length c), (2, .int .i64 src), (3, .slice (some ⟨u, 0, none⟩) a.length d), (4, .pointer (some ⟨H.length, 0, none⟩)), (9, .pointer (some ⟨H.length + 1, 0, none⟩))] (H ++ [some ⟨[.int .i64 n, .slice (some ⟨tp, 0, none⟩) ps.length cp], true, 26, 1⟩, some ⟨(wetR ps (opL l (shutL l)) src).map .bool, true, 111, 1⟩]) ?_ ?_
  · skip
    refine ADraw.any H (by kernel_rfl) (by first | exact SubH.refl | exact SubH.app | exact SubH.both (by simp [subL])) ?_
    refine AAny.takes (fuel := 4) (by kernel_rfl) (by kernel_rfl) [1, 2, 4] (by kernel_rfl) (by kernel_rfl) ?_
    simp -dsimp -implicitDefEqProofs (disch := omega) [go_sem, -List.getD_eq_getElem?_getD, ite_yes, htp, ht, hu]
    refine AAny.two 3 0 3 (by kernel_rfl) (by kernel_rfl) (by kernel_rfl) ?_ ?_
    · simp -dsimp -implicitDefEqProofs (disch := omega) [go_sem, -List.getD_eq_getElem?_getD, ite_yes, htp, ht, hu]
      refine AAt.of1 ?_
      refine AAny.one1 2 3 ?_
      simp -dsimp -implicitDefEqProofs (disch := omega) [go_sem, -List.getD_eq_getElem?_getD, ite_yes, htp, ht, hu]
      refine ACall.of (AO _ t u hS.app hU.app) ?_
      simp -dsimp -implicitDefEqProofs (disch := omega) [go_sem, -List.getD_eq_getElem?_getD, ite_yes, htp, ht, hu]
      refine AAt.of1 ?_
      refine AAny.one1 1 5 ?_
      simp -dsimp -implicitDefEqProofs (disch := omega) [go_sem, -List.getD_eq_getElem?_getD, ite_yes, htp, ht, hu]
      refine ACall.of (wateredO_A n ps cp l hg 0 src hsrc (shutL l) _ tp (H.length + 1) hP.app (Sl.of1 rfl)) ?_
      simp -dsimp -implicitDefEqProofs (disch := omega) [go_sem, -List.getD_eq_getElem?_getD, ite_yes, htp, ht, hu]
      refine AAt.of1 ?_
      refine AAny.takes (fuel := 0) (by kernel_rfl) (by kernel_rfl) [6] (by kernel_rfl) (by kernel_rfl) ?_
      simp -dsimp -implicitDefEqProofs (disch := omega) [go_sem, -List.getD_eq_getElem?_getD, ite_yes, htp, ht, hu]
      refine AAny.done (by kernel_rfl) ?_
      simp -dsimp -implicitDefEqProofs (disch := omega) [go_sem, -List.getD_eq_getElem?_getD, ite_yes, htp, ht, hu]
      exact ⟨weakS_mk [some 0, some 2] rfl (by simp -dsimp -implicitDefEqProofs (disch := omega) [go_sem, -List.getD_eq_getElem?_getD, ite_yes]; exact ⟨wl_net htp, .inl ⟨rfl, bl_flat _⟩⟩) (by simp -dsimp -implicitDefEqProofs (disch := omega) [go_sem, -List.getD_eq_getElem?_getD, ite_yes, htp, ht, hu])⟩
    · simp -dsimp -implicitDefEqProofs (disch := omega) [go_sem, -List.getD_eq_getElem?_getD, ite_yes, htp, ht, hu]
      refine ACall.of (AO _ t u hS.app hU.app) ?_
      simp -dsimp -implicitDefEqProofs (disch := omega) [go_sem, -List.getD_eq_getElem?_getD, ite_yes, htp, ht, hu]
      refine AAt.of1 ?_
      refine AAny.one1 2 0 ?_
      simp -dsimp -implicitDefEqProofs (disch := omega) [go_sem, -List.getD_eq_getElem?_getD, ite_yes, htp, ht, hu]
      refine AAt.of1 ?_
      refine AAny.one1 1 5 ?_
      simp -dsimp -implicitDefEqProofs (disch := omega) [go_sem, -List.getD_eq_getElem?_getD, ite_yes, htp, ht, hu]
      refine ACall.of (wateredO_A n ps cp l hg 0 src hsrc (shutL l) _ tp (H.length + 1) hP.app (Sl.of1 rfl)) ?_
      simp -dsimp -implicitDefEqProofs (disch := omega) [go_sem, -List.getD_eq_getElem?_getD, ite_yes, htp, ht, hu]
      refine AAt.of1 ?_
      refine AAny.takes (fuel := 0) (by kernel_rfl) (by kernel_rfl) [6] (by kernel_rfl) (by kernel_rfl) ?_
      simp -dsimp -implicitDefEqProofs (disch := omega) [go_sem, -List.getD_eq_getElem?_getD, ite_yes, htp, ht, hu]
      refine AAny.done (by kernel_rfl) ?_
      simp -dsimp -implicitDefEqProofs (disch := omega) [go_sem, -List.getD_eq_getElem?_getD, ite_yes, htp, ht, hu]
      exact ⟨weakS_mk [some 0, some 2] rfl (by simp -dsimp -implicitDefEqProofs (disch := omega) [go_sem, -List.getD_eq_getElem?_getD, ite_yes]; exact ⟨wl_net htp, .inl ⟨rfl, bl_flat _⟩⟩) (by simp -dsimp -implicitDefEqProofs (disch := omega) [go_sem, -List.getD_eq_getElem?_getD, ite_yes, htp, ht, hu])⟩
  generalize hA : wetR ps (opL l (shutL l)) src = RA
  have hRA : RA.length = 19 := hA ▸ wetR_length hN _ _
  simp -dsimp -implicitDefEqProofs (disch := omega) [go_sem, -List.getD_eq_getElem?_getD, ite_yes, htp, ht, hu]
  refine ALoop.intro (ι := Nat) (fun k => k ≤ a.length ∧ gtlTo ps l src a k) (fun k => [(1, .slice (some ⟨t, 0, none⟩) l.length c), (2, .int .i64 src), (3, .slice (some ⟨u, 0, none⟩) a.length d), (4, .pointer (some ⟨H.length, 0, none⟩)), (9, .pointer (some ⟨H.length + 1, 0, none⟩)), (19, .slice (some ⟨u, 0, none⟩) a.length d), (20, .int .i64 a.length), (21, .int .i64 k)]) (fun _ => H ++ [some ⟨[.int .i64 n, .slice (some ⟨tp, 0, none⟩) ps.length cp], true, 26, 1⟩, some ⟨RA.map .bool, true, 111, 1⟩]) (fun k => a.length - k) 0 ⟨by omega, fun i hi => by omega⟩ ?_ ?_
  · refine weakS_mk [some 0, some 1] rfl ?_ (by simp -dsimp -implicitDefEqProofs (disch := omega) [go_sem, -List.getD_eq_getElem?_getD, ite_yes, htp, ht, hu])
    simp -dsimp -implicitDefEqProofs (disch := omega) [go_sem, -List.getD_eq_getElem?_getD, ite_yes]
    exact ⟨wl_net htp, .inl ⟨rfl, bl_flat _⟩⟩
  rintro k ⟨hk, hf⟩
  by_cases hlt : k < a.length
  rotate_left
  · obtain rfl : k = a.length := by omega
    simp -dsimp -implicitDefEqProofs (disch := omega) [go_sem, -List.getD_eq_getElem?_getD, ite_yes, hlt]
    exact fin_flat rfl (by rw [gtlN, decide_eq_true hf])
  have c1 := ca k hlt
  have hid := (hor k hlt).1
  have hgb : gtlB ps l src a k = (tchB ps (wetR ps (opL l (a.take k)) src) (vlAt l (a.getD k 0)) || !tchB ps RA (vlAt l (a.getD k 0))) := by rw [← hA]; rfl
  generalize a.getD k 0 = id at *
  obtain ⟨q, hqx, hql, hqv⟩ := vlIs_ix hid
  obtain ⟨⟨r, hr, hrl⟩, hv1, hv2⟩ := vl_ok hg hql
  have cs := hS.cells (s := 4) (fun _ => rfl) vl0 q hql
  simp only [vlE] at cs
  rw [hqv] at hgb
  have hwl := wetR_length hN (opL l (a.take k)) src
  have hqi : (q : Int) < (l.length : Int) := by omega
  generalize l.getD q vl0 = v at *
  simp -dsimp -implicitDefEqProofs (disch := omega) [go_sem, -List.getD_eq_getElem?_getD, ite_yes, hlt, htp, ht, hu, c1]
  refine ACall.of (valveIndex_A l (by omega) c id _ t hS.app) ?_
  rw [hqx]
  simp -dsimp -implicitDefEqProofs (disch := omega) [go_sem, -List.getD_eq_getElem?_getD, ite_yes, hlt, htp, ht, hu, hql, hqi, cs]
  cases e1 : tchB ps (wetR ps (opL l (a.take k)) src) v
  · rw [e1, Bool.false_or] at hgb
    refine ADraw.mid [(1, .slice (some ⟨t, 0, none⟩) l.length c), (2, .int .i64 src), (3, .slice (some ⟨u, 0, none⟩) a.length d), (4, .pointer (some ⟨H.length, 0, none⟩)), (9, .pointer (some ⟨H.length + 1, 0, none⟩)), (19, .slice (some ⟨u, 0, none⟩) a.length d), (20, .int .i64 a.length), (21, .int .i64 k), (49, .bool (tchB ps RA v))] (H ++ [some ⟨[.int .i64 n, .slice (some ⟨tp, 0, none⟩) ps.length cp], true, 26, 1⟩, some ⟨RA.map .bool, true, 111, 1⟩]) ?_ ?_
    · skip
      refine ADraw.any (H ++ [none, none, some ⟨[.int .i64 v.1, .int .i64 v.2.1, .int .i64 v.2.2.1, .bool v.2.2.2], true, 71, 1⟩]) (by kernel_rfl) (by first | exact SubH.refl | exact SubH.app | exact SubH.both (by simp [subL])) ?_
      refine AAny.takes (fuel := 12) (by kernel_rfl) (by kernel_rfl) [2, 3, 4, 5, 7, 9] (by kernel_rfl) (by kernel_rfl) ?_
      simp -dsimp -implicitDefEqProofs (disch := omega) [go_sem, -List.getD_eq_getElem?_getD, ite_yes, htp, ht, hu, hk, e1]
      refine AAny.three 11 0 1 6 (by kernel_rfl) (by kernel_rfl) (by kernel_rfl) ?_ ?_ ?_
      · simp -dsimp -implicitDefEqProofs (disch := omega) [go_sem, -List.getD_eq_getElem?_getD, ite_yes, htp, ht, hu, hk, e1]
        refine AAt.of1 ?_
        refine AAny.two 10 1 6 (by kernel_rfl) (by kernel_rfl) (by kernel_rfl) ?_ ?_
        · simp -dsimp -implicitDefEqProofs (disch := omega) [go_sem, -List.getD_eq_getElem?_getD, ite_yes, htp, ht, hu, hk, e1]
          refine AAt.of1 ?_
          refine AAny.one1 9 6 ?_
          simp -dsimp -implicitDefEqProofs (disch := omega) [go_sem, -List.getD_eq_getElem?_getD, ite_yes, htp, ht, hu, hk, e1]
          refine ACall.of (openedT_A l (by omega) c a k hk (by omega) k _ t u hS.app hU.app) ?_
          simp -dsimp -implicitDefEqProofs (disch := omega) [go_sem, -List.getD_eq_getElem?_getD, ite_yes, htp, ht, hu, hk, e1]
          refine AAt.of1 ?_
          refine AAny.one1 8 8 ?_
          simp -dsimp -implicitDefEqProofs (disch := omega) [go_sem, -List.getD_eq_getElem?_getD, ite_yes, htp, ht, hu, hk, e1]
          refine ACall.of (wateredO_A n ps cp l hg 0 src hsrc (a.take k) _ tp (H.length + 3) hP.app (Sl.nth 3 rfl rfl)) ?_
          simp -dsimp -implicitDefEqProofs (disch := omega) [go_sem, -List.getD_eq_getElem?_getD, ite_yes, htp, ht, hu, hk, e1]
          refine AAt.of1 ?_
          refine AAny.one1 7 10 ?_
          simp -dsimp -implicitDefEqProofs (disch := omega) [go_sem, -List.getD_eq_getElem?_getD, ite_yes, htp, ht, hu, hk, e1]
          refine ACall.of (touches_A n ps hpl cp (wetR ps (opL l (a.take k)) src) hwl v ⟨hv1, by omega⟩ r hr hrl _ tp (H.length + 4) hP.app (Sl.nth 4 rfl (blE_map _))) ?_
          simp -dsimp -implicitDefEqProofs (disch := omega) [go_sem, -List.getD_eq_getElem?_getD, ite_yes, htp, ht, hu, hk, e1]
          refine AAt.of1 ?_
          refine AAny.takes (fuel := 3) (by kernel_rfl) (by kernel_rfl) [11, 12, 14, 15] (by kernel_rfl) (by kernel_rfl) ?_
          simp -dsimp -implicitDefEqProofs (disch := omega) [go_sem, -List.getD_eq_getElem?_getD, ite_yes, htp, ht, hu, hk, e1]
          refine AAny.one1 2 13 ?_
          simp -dsimp -implicitDefEqProofs (disch := omega) [go_sem, -List.getD_eq_getElem?_getD, ite_yes, htp, ht, hu, hk, e1]
          refine AAt.of1 ?_
          refine AAny.one1 1 16 ?_
          simp -dsimp -implicitDefEqProofs (disch := omega) [go_sem, -List.getD_eq_getElem?_getD, ite_yes, htp, ht, hu, hk, e1]
          refine ACall.of (touches_A n ps hpl cp RA hRA v ⟨hv1, by omega⟩ r hr hrl _ tp (H.length + 1) hP.app (Sl.of1 (blE_map _))) ?_
          simp -dsimp -implicitDefEqProofs (disch := omega) [go_sem, -List.getD_eq_getElem?_getD, ite_yes, htp, ht, hu, hk, e1]
          refine AAt.of1 ?_
          refine AAny.takes (fuel := 0) (by kernel_rfl) (by kernel_rfl) [17] (by kernel_rfl) (by kernel_rfl) ?_
          simp -dsimp -implicitDefEqProofs (disch := omega) [go_sem, -List.getD_eq_getElem?_getD, ite_yes, htp, ht, hu, hk, e1]
          refine AAny.done (by kernel_rfl) ?_
          simp -dsimp -implicitDefEqProofs (disch := omega) [go_sem, -List.getD_eq_getElem?_getD, ite_yes, htp, ht, hu, hk, e1]
          exact ⟨weakS_mk [some 0, some 1] rfl (by simp -dsimp -implicitDefEqProofs (disch := omega) [go_sem, -List.getD_eq_getElem?_getD, ite_yes]; exact ⟨wl_net htp, .inl ⟨rfl, bl_flat _⟩⟩) (by simp -dsimp -implicitDefEqProofs (disch := omega) [go_sem, -List.getD_eq_getElem?_getD, ite_yes, htp, ht, hu])⟩
        · simp -dsimp -implicitDefEqProofs (disch := omega) [go_sem, -List.getD_eq_getElem?_getD, ite_yes, htp, ht, hu, hk, e1]
          refine ACall.of (openedT_A l (by omega) c a k hk (by omega) k _ t u hS.app hU.app) ?_
          simp -dsimp -implicitDefEqProofs (disch := omega) [go_sem, -List.getD_eq_getElem?_getD, ite_yes, htp, ht, hu, hk, e1]
          refine AAt.of1 ?_
          refine AAny.one1 9 1 ?_
          simp -dsimp -implicitDefEqProofs (disch := omega) [go_sem, -List.getD_eq_getElem?_getD, ite_yes, htp, ht, hu, hk, e1]
          refine AAt.of1 ?_
          refine AAny.one1 8 8 ?_
          simp -dsimp -implicitDefEqProofs (disch := omega) [go_sem, -List.getD_eq_getElem?_getD, ite_yes, htp, ht, hu, hk, e1]
          refine ACall.of (wateredO_A n ps cp l hg 0 src hsrc (a.take k) _ tp (H.length + 3) hP.app (Sl.nth 3 rfl rfl)) ?_
          simp -dsimp -implicitDefEqProofs (disch := omega) [go_sem, -List.getD_eq_getElem?_getD, ite_yes, htp, ht, hu, hk, e1]
          refine AAt.of1 ?_
          refine AAny.one1 7 10 ?_
          simp -dsimp -implicitDefEqProofs (disch := omega) [go_sem, -List.getD_eq_getElem?_getD, ite_yes, htp, ht, hu, hk, e1]
          refine ACall.of (touches_A n ps hpl cp (wetR ps (opL l (a.take k)) src) hwl v ⟨hv1, by omega⟩ r hr hrl _ tp (H.length + 4) hP.app (Sl.nth 4 rfl (blE_map _))) ?_
          simp -dsimp -implicitDefEqProofs (disch := omega) [go_sem, -List.getD_eq_getElem?_getD, ite_yes, htp, ht, hu, hk, e1]
          refine AAt.of1 ?_
          refine AAny.takes (fuel := 3) (by kernel_rfl) (by kernel_rfl) [11, 12, 14, 15] (by kernel_rfl) (by kernel_rfl) ?_
          simp -dsimp -implicitDefEqProofs (disch := omega) [go_sem, -List.getD_eq_getElem?_getD, ite_yes, htp, ht, hu, hk, e1]
          refine AAny.one1 2 13 ?_
          simp -dsimp -implicitDefEqProofs (disch := omega) [go_sem, -List.getD_eq_getElem?_getD, ite_yes, htp, ht, hu, hk, e1]
          refine AAt.of1 ?_
          refine AAny.one1 1 16 ?_
          simp -dsimp -implicitDefEqProofs (disch := omega) [go_sem, -List.getD_eq_getElem?_getD, ite_yes, htp, ht, hu, hk, e1]
          refine ACall.of (touches_A n ps hpl cp RA hRA v ⟨hv1, by omega⟩ r hr hrl _ tp (H.length + 1) hP.app (Sl.of1 (blE_map _))) ?_
          simp -dsimp -implicitDefEqProofs (disch := omega) [go_sem, -List.getD_eq_getElem?_getD, ite_yes, htp, ht, hu, hk, e1]
          refine AAt.of1 ?_
          refine AAny.takes (fuel := 0) (by kernel_rfl) (by kernel_rfl) [17] (by kernel_rfl) (by kernel_rfl) ?_
          simp -dsimp -implicitDefEqProofs (disch := omega) [go_sem, -List.getD_eq_getElem?_getD, ite_yes, htp, ht, hu, hk, e1]
          refine AAny.done (by kernel_rfl) ?_
          simp -dsimp -implicitDefEqProofs (disch := omega) [go_sem, -List.getD_eq_getElem?_getD, ite_yes, htp, ht, hu, hk, e1]
          exact ⟨weakS_mk [some 0, some 1] rfl (by simp -dsimp -implicitDefEqProofs (disch := omega) [go_sem, -List.getD_eq_getElem?_getD, ite_yes]; exact ⟨wl_net htp, .inl ⟨rfl, bl_flat _⟩⟩) (by simp -dsimp -implicitDefEqProofs (disch := omega) [go_sem, -List.getD_eq_getElem?_getD, ite_yes, htp, ht, hu])⟩
      · simp -dsimp -implicitDefEqProofs (disch := omega) [go_sem, -List.getD_eq_getElem?_getD, ite_yes, htp, ht, hu, hk, e1]
        refine AAt.of1 ?_
        refine AAny.two 10 0 6 (by kernel_rfl) (by kernel_rfl) (by kernel_rfl) ?_ ?_
        · simp -dsimp -implicitDefEqProofs (disch := omega) [go_sem, -List.getD_eq_getElem?_getD, ite_yes, htp, ht, hu, hk, e1]
          refine AAt.of1 ?_
          refine AAny.one1 9 6 ?_
          simp -dsimp -implicitDefEqProofs (disch := omega) [go_sem, -List.getD_eq_getElem?_getD, ite_yes, htp, ht, hu, hk, e1]
          refine ACall.of (openedT_A l (by omega) c a k hk (by omega) k _ t u hS.app hU.app) ?_
          simp -dsimp -implicitDefEqProofs (disch := omega) [go_sem, -List.getD_eq_getElem?_getD, ite_yes, htp, ht, hu, hk, e1]
          refine AAt.of1 ?_
          refine AAny.one1 8 8 ?_
          simp -dsimp -implicitDefEqProofs (disch := omega) [go_sem, -List.getD_eq_getElem?_getD, ite_yes, htp, ht, hu, hk, e1]
          refine ACall.of (wateredO_A n ps cp l hg 0 src hsrc (a.take k) _ tp (H.length + 3) hP.app (Sl.nth 3 rfl rfl)) ?_
          simp -dsimp -implicitDefEqProofs (disch := omega) [go_sem, -List.getD_eq_getElem?_getD, ite_yes, htp, ht, hu, hk, e1]
          refine AAt.of1 ?_
          refine AAny.one1 7 10 ?_
          simp -dsimp -implicitDefEqProofs (disch := omega) [go_sem, -List.getD_eq_getElem?_getD, ite_yes, htp, ht, hu, hk, e1]
          refine ACall.of (touches_A n ps hpl cp (wetR ps (opL l (a.take k)) src) hwl v ⟨hv1, by omega⟩ r hr hrl _ tp (H.length + 4) hP.app (Sl.nth 4 rfl (blE_map _))) ?_
          simp -dsimp -implicitDefEqProofs (disch := omega) [go_sem, -List.getD_eq_getElem?_getD, ite_yes, htp, ht, hu, hk, e1]
          refine AAt.of1 ?_
          refine AAny.takes (fuel := 3) (by kernel_rfl) (by kernel_rfl) [11, 12, 14, 15] (by kernel_rfl) (by kernel_rfl) ?_
          simp -dsimp -implicitDefEqProofs (disch := omega) [go_sem, -List.getD_eq_getElem?_getD, ite_yes, htp, ht, hu, hk, e1]
          refine AAny.one1 2 13 ?_
          simp -dsimp -implicitDefEqProofs (disch := omega) [go_sem, -List.getD_eq_getElem?_getD, ite_yes, htp, ht, hu, hk, e1]
          refine AAt.of1 ?_
          refine AAny.one1 1 16 ?_
          simp -dsimp -implicitDefEqProofs (disch := omega) [go_sem, -List.getD_eq_getElem?_getD, ite_yes, htp, ht, hu, hk, e1]
          refine ACall.of (touches_A n ps hpl cp RA hRA v ⟨hv1, by omega⟩ r hr hrl _ tp (H.length + 1) hP.app (Sl.of1 (blE_map _))) ?_
          simp -dsimp -implicitDefEqProofs (disch := omega) [go_sem, -List.getD_eq_getElem?_getD, ite_yes, htp, ht, hu, hk, e1]
          refine AAt.of1 ?_
          refine AAny.takes (fuel := 0) (by kernel_rfl) (by kernel_rfl) [17] (by kernel_rfl) (by kernel_rfl) ?_
          simp -dsimp -implicitDefEqProofs (disch := omega) [go_sem, -List.getD_eq_getElem?_getD, ite_yes, htp, ht, hu, hk, e1]
          refine AAny.done (by kernel_rfl) ?_
          simp -dsimp -implicitDefEqProofs (disch := omega) [go_sem, -List.getD_eq_getElem?_getD, ite_yes, htp, ht, hu, hk, e1]
          exact ⟨weakS_mk [some 0, some 1] rfl (by simp -dsimp -implicitDefEqProofs (disch := omega) [go_sem, -List.getD_eq_getElem?_getD, ite_yes]; exact ⟨wl_net htp, .inl ⟨rfl, bl_flat _⟩⟩) (by simp -dsimp -implicitDefEqProofs (disch := omega) [go_sem, -List.getD_eq_getElem?_getD, ite_yes, htp, ht, hu])⟩
        · simp -dsimp -implicitDefEqProofs (disch := omega) [go_sem, -List.getD_eq_getElem?_getD, ite_yes, htp, ht, hu, hk, e1]
          refine ACall.of (openedT_A l (by omega) c a k hk (by omega) k _ t u hS.app hU.app) ?_
          simp -dsimp -implicitDefEqProofs (disch := omega) [go_sem, -List.getD_eq_getElem?_getD, ite_yes, htp, ht, hu, hk, e1]
          refine AAt.of1 ?_
          refine AAny.two 9 0 8 (by kernel_rfl) (by kernel_rfl) (by kernel_rfl) ?_ ?_
          · simp -dsimp -implicitDefEqProofs (disch := omega) [go_sem, -List.getD_eq_getElem?_getD, ite_yes, htp, ht, hu, hk, e1]
            refine AAt.of1 ?_
            refine AAny.one1 8 8 ?_
            simp -dsimp -implicitDefEqProofs (disch := omega) [go_sem, -List.getD_eq_getElem?_getD, ite_yes, htp, ht, hu, hk, e1]
            refine ACall.of (wateredO_A n ps cp l hg 0 src hsrc (a.take k) _ tp (H.length + 3) hP.app (Sl.nth 3 rfl rfl)) ?_
            simp -dsimp -implicitDefEqProofs (disch := omega) [go_sem, -List.getD_eq_getElem?_getD, ite_yes, htp, ht, hu, hk, e1]
            refine AAt.of1 ?_
            refine AAny.one1 7 10 ?_
            simp -dsimp -implicitDefEqProofs (disch := omega) [go_sem, -List.getD_eq_getElem?_getD, ite_yes, htp, ht, hu, hk, e1]
            refine ACall.of (touches_A n ps hpl cp (wetR ps (opL l (a.take k)) src) hwl v ⟨hv1, by omega⟩ r hr hrl _ tp (H.length + 4) hP.app (Sl.nth 4 rfl (blE_map _))) ?_
            simp -dsimp -implicitDefEqProofs (disch := omega) [go_sem, -List.getD_eq_getElem?_getD, ite_yes, htp, ht, hu, hk, e1]
            refine AAt.of1 ?_
            refine AAny.takes (fuel := 3) (by kernel_rfl) (by kernel_rfl) [11, 12, 14, 15] (by kernel_rfl) (by kernel_rfl) ?_
            simp -dsimp -implicitDefEqProofs (disch := omega) [go_sem, -List.getD_eq_getElem?_getD, ite_yes, htp, ht, hu, hk, e1]
            refine AAny.one1 2 13 ?_
            simp -dsimp -implicitDefEqProofs (disch := omega) [go_sem, -List.getD_eq_getElem?_getD, ite_yes, htp, ht, hu, hk, e1]
            refine AAt.of1 ?_
            refine AAny.one1 1 16 ?_
            simp -dsimp -implicitDefEqProofs (disch := omega) [go_sem, -List.getD_eq_getElem?_getD, ite_yes, htp, ht, hu, hk, e1]
            refine ACall.of (touches_A n ps hpl cp RA hRA v ⟨hv1, by omega⟩ r hr hrl _ tp (H.length + 1) hP.app (Sl.of1 (blE_map _))) ?_
            simp -dsimp -implicitDefEqProofs (disch := omega) [go_sem, -List.getD_eq_getElem?_getD, ite_yes, htp, ht, hu, hk, e1]
            refine AAt.of1 ?_
            refine AAny.takes (fuel := 0) (by kernel_rfl) (by kernel_rfl) [17] (by kernel_rfl) (by kernel_rfl) ?_
            simp -dsimp -implicitDefEqProofs (disch := omega) [go_sem, -List.getD_eq_getElem?_getD, ite_yes, htp, ht, hu, hk, e1]
            refine AAny.done (by kernel_rfl) ?_
            simp -dsimp -implicitDefEqProofs (disch := omega) [go_sem, -List.getD_eq_getElem?_getD, ite_yes, htp, ht, hu, hk, e1]
            exact ⟨weakS_mk [some 0, some 1] rfl (by simp -dsimp -implicitDefEqProofs (disch := omega) [go_sem, -List.getD_eq_getElem?_getD, ite_yes]; exact ⟨wl_net htp, .inl ⟨rfl, bl_flat _⟩⟩) (by simp -dsimp -implicitDefEqProofs (disch := omega) [go_sem, -List.getD_eq_getElem?_getD, ite_yes, htp, ht, hu])⟩
          · simp -dsimp -implicitDefEqProofs (disch := omega) [go_sem, -List.getD_eq_getElem?_getD, ite_yes, htp, ht, hu, hk, e1]
            refine ACall.of (wateredO_A n ps cp l hg 0 src hsrc (a.take k) _ tp (H.length + 3) hP.app (Sl.nth 3 rfl rfl)) ?_
            simp -dsimp -implicitDefEqProofs (disch := omega) [go_sem, -List.getD_eq_getElem?_getD, ite_yes, htp, ht, hu, hk, e1]
            refine AAt.of1 ?_
            refine AAny.one1 8 0 ?_
            simp -dsimp -implicitDefEqProofs (disch := omega) [go_sem, -List.getD_eq_getElem?_getD, ite_yes, htp, ht, hu, hk, e1]
            refine AAt.of1 ?_
            refine AAny.one1 7 10 ?_
            simp -dsimp -implicitDefEqProofs (disch := omega) [go_sem, -List.getD_eq_getElem?_getD, ite_yes, htp, ht, hu, hk, e1]
            refine ACall.of (touches_A n ps hpl cp (wetR ps (opL l (a.take k)) src) hwl v ⟨hv1, by omega⟩ r hr hrl _ tp (H.length + 4) hP.app (Sl.nth 4 rfl (blE_map _))) ?_
            simp -dsimp -implicitDefEqProofs (disch := omega) [go_sem, -List.getD_eq_getElem?_getD, ite_yes, htp, ht, hu, hk, e1]
            refine AAt.of1 ?_
            refine AAny.takes (fuel := 3) (by kernel_rfl) (by kernel_rfl) [11, 12, 14, 15] (by kernel_rfl) (by kernel_rfl) ?_
            simp -dsimp -implicitDefEqProofs (disch := omega) [go_sem, -List.getD_eq_getElem?_getD, ite_yes, htp, ht, hu, hk, e1]
            refine AAny.one1 2 13 ?_
            simp -dsimp -implicitDefEqProofs (disch := omega) [go_sem, -List.getD_eq_getElem?_getD, ite_yes, htp, ht, hu, hk, e1]
            refine AAt.of1 ?_
            refine AAny.one1 1 16 ?_
            simp -dsimp -implicitDefEqProofs (disch := omega) [go_sem, -List.getD_eq_getElem?_getD, ite_yes, htp, ht, hu, hk, e1]
            refine ACall.of (touches_A n ps hpl cp RA hRA v ⟨hv1, by omega⟩ r hr hrl _ tp (H.length + 1) hP.app (Sl.of1 (blE_map _))) ?_
            simp -dsimp -implicitDefEqProofs (disch := omega) [go_sem, -List.getD_eq_getElem?_getD, ite_yes, htp, ht, hu, hk, e1]
            refine AAt.of1 ?_
            refine AAny.takes (fuel := 0) (by kernel_rfl) (by kernel_rfl) [17] (by kernel_rfl) (by kernel_rfl) ?_
            simp -dsimp -implicitDefEqProofs (disch := omega) [go_sem, -List.getD_eq_getElem?_getD, ite_yes, htp, ht, hu, hk, e1]
            refine AAny.done (by kernel_rfl) ?_
            simp -dsimp -implicitDefEqProofs (disch := omega) [go_sem, -List.getD_eq_getElem?_getD, ite_yes, htp, ht, hu, hk, e1]
            exact ⟨weakS_mk [some 0, some 1] rfl (by simp -dsimp -implicitDefEqProofs (disch := omega) [go_sem, -List.getD_eq_getElem?_getD, ite_yes]; exact ⟨wl_net htp, .inl ⟨rfl, bl_flat _⟩⟩) (by simp -dsimp -implicitDefEqProofs (disch := omega) [go_sem, -List.getD_eq_getElem?_getD, ite_yes, htp, ht, hu])⟩
      · simp -dsimp -implicitDefEqProofs (disch := omega) [go_sem, -List.getD_eq_getElem?_getD, ite_yes, htp, ht, hu, hk, e1]
        refine ACall.of (openedT_A l (by omega) c a k hk (by omega) k _ t u hS.app hU.app) ?_
        simp -dsimp -implicitDefEqProofs (disch := omega) [go_sem, -List.getD_eq_getElem?_getD, ite_yes, htp, ht, hu, hk, e1]
        refine AAt.of1 ?_
        refine AAny.two 10 0 1 (by kernel_rfl) (by kernel_rfl) (by kernel_rfl) ?_ ?_
        · simp -dsimp -implicitDefEqProofs (disch := omega) [go_sem, -List.getD_eq_getElem?_getD, ite_yes, htp, ht, hu, hk, e1]
          refine AAt.of1 ?_
          refine AAny.one1 9 1 ?_
          simp -dsimp -implicitDefEqProofs (disch := omega) [go_sem, -List.getD_eq_getElem?_getD, ite_yes, htp, ht, hu, hk, e1]
          refine AAt.of1 ?_
          refine AAny.one1 8 8 ?_
          simp -dsimp -implicitDefEqProofs (disch := omega) [go_sem, -List.getD_eq_getElem?_getD, ite_yes, htp, ht, hu, hk, e1]
          refine ACall.of (wateredO_A n ps cp l hg 0 src hsrc (a.take k) _ tp (H.length + 3) hP.app (Sl.nth 3 rfl rfl)) ?_
          simp -dsimp -implicitDefEqProofs (disch := omega) [go_sem, -List.getD_eq_getElem?_getD, ite_yes, htp, ht, hu, hk, e1]
          refine AAt.of1 ?_
          refine AAny.one1 7 10 ?_
          simp -dsimp -implicitDefEqProofs (disch := omega) [go_sem, -List.getD_eq_getElem?_getD, ite_yes, htp, ht, hu, hk, e1]
          refine ACall.of (touches_A n ps hpl cp (wetR ps (opL l (a.take k)) src) hwl v ⟨hv1, by omega⟩ r hr hrl _ tp (H.length + 4) hP.app (Sl.nth 4 rfl (blE_map _))) ?_
          simp -dsimp -implicitDefEqProofs (disch := omega) [go_sem, -List.getD_eq_getElem?_getD, ite_yes, htp, ht, hu, hk, e1]
          refine AAt.of1 ?_
          refine AAny.takes (fuel := 3) (by kernel_rfl) (by kernel_rfl) [11, 12, 14, 15] (by kernel_rfl) (by kernel_rfl) ?_
          simp -dsimp -implicitDefEqProofs (disch := omega) [go_sem, -List.getD_eq_getElem?_getD, ite_yes, htp, ht, hu, hk, e1]
          refine AAny.one1 2 13 ?_
          simp -dsimp -implicitDefEqProofs (disch := omega) [go_sem, -List.getD_eq_getElem?_getD, ite_yes, htp, ht, hu, hk, e1]
          refine AAt.of1 ?_
          refine AAny.one1 1 16 ?_
          simp -dsimp -implicitDefEqProofs (disch := omega) [go_sem, -List.getD_eq_getElem?_getD, ite_yes, htp, ht, hu, hk, e1]
          refine ACall.of (touches_A n ps hpl cp RA hRA v ⟨hv1, by omega⟩ r hr hrl _ tp (H.length + 1) hP.app (Sl.of1 (blE_map _))) ?_
          simp -dsimp -implicitDefEqProofs (disch := omega) [go_sem, -List.getD_eq_getElem?_getD, ite_yes, htp, ht, hu, hk, e1]
          refine AAt.of1 ?_
          refine AAny.takes (fuel := 0) (by kernel_rfl) (by kernel_rfl) [17] (by kernel_rfl) (by kernel_rfl) ?_
          simp -dsimp -implicitDefEqProofs (disch := omega) [go_sem, -List.getD_eq_getElem?_getD, ite_yes, htp, ht, hu, hk, e1]
          refine AAny.done (by kernel_rfl) ?_
          simp -dsimp -implicitDefEqProofs (disch := omega) [go_sem, -List.getD_eq_getElem?_getD, ite_yes, htp, ht, hu, hk, e1]
          exact ⟨weakS_mk [some 0, some 1] rfl (by simp -dsimp -implicitDefEqProofs (disch := omega) [go_sem, -List.getD_eq_getElem?_getD, ite_yes]; exact ⟨wl_net htp, .inl ⟨rfl, bl_flat _⟩⟩) (by simp -dsimp -implicitDefEqProofs (disch := omega) [go_sem, -List.getD_eq_getElem?_getD, ite_yes, htp, ht, hu])⟩
        · simp -dsimp -implicitDefEqProofs (disch := omega) [go_sem, -List.getD_eq_getElem?_getD, ite_yes, htp, ht, hu, hk, e1]
          refine AAt.of1 ?_
          refine AAny.two 9 0 8 (by kernel_rfl) (by kernel_rfl) (by kernel_rfl) ?_ ?_
          · simp -dsimp -implicitDefEqProofs (disch := omega) [go_sem, -List.getD_eq_getElem?_getD, ite_yes, htp, ht, hu, hk, e1]
            refine AAt.of1 ?_
            refine AAny.one1 8 8 ?_
            simp -dsimp -implicitDefEqProofs (disch := omega) [go_sem, -List.getD_eq_getElem?_getD, ite_yes, htp, ht, hu, hk, e1]
            refine ACall.of (wateredO_A n ps cp l hg 0 src hsrc (a.take k) _ tp (H.length + 3) hP.app (Sl.nth 3 rfl rfl)) ?_
            simp -dsimp -implicitDefEqProofs (disch := omega) [go_sem, -List.getD_eq_getElem?_getD, ite_yes, htp, ht, hu, hk, e1]
            refine AAt.of1 ?_
            refine AAny.one1 7 10 ?_
            simp -dsimp -implicitDefEqProofs (disch := omega) [go_sem, -List.getD_eq_getElem?_getD, ite_yes, htp, ht, hu, hk, e1]
            refine ACall.of (touches_A n ps hpl cp (wetR ps (opL l (a.take k)) src) hwl v ⟨hv1, by omega⟩ r hr hrl _ tp (H.length + 4) hP.app (Sl.nth 4 rfl (blE_map _))) ?_
            simp -dsimp -implicitDefEqProofs (disch := omega) [go_sem, -List.getD_eq_getElem?_getD, ite_yes, htp, ht, hu, hk, e1]
            refine AAt.of1 ?_
            refine AAny.takes (fuel := 3) (by kernel_rfl) (by kernel_rfl) [11, 12, 14, 15] (by kernel_rfl) (by kernel_rfl) ?_
            simp -dsimp -implicitDefEqProofs (disch := omega) [go_sem, -List.getD_eq_getElem?_getD, ite_yes, htp, ht, hu, hk, e1]
            refine AAny.one1 2 13 ?_
            simp -dsimp -implicitDefEqProofs (disch := omega) [go_sem, -List.getD_eq_getElem?_getD, ite_yes, htp, ht, hu, hk, e1]
            refine AAt.of1 ?_
            refine AAny.one1 1 16 ?_
            simp -dsimp -implicitDefEqProofs (disch := omega) [go_sem, -List.getD_eq_getElem?_getD, ite_yes, htp, ht, hu, hk, e1]
            refine ACall.of (touches_A n ps hpl cp RA hRA v ⟨hv1, by omega⟩ r hr hrl _ tp (H.length + 1) hP.app (Sl.of1 (blE_map _))) ?_
            simp -dsimp -implicitDefEqProofs (disch := omega) [go_sem, -List.getD_eq_getElem?_getD, ite_yes, htp, ht, hu, hk, e1]
            refine AAt.of1 ?_
            refine AAny.takes (fuel := 0) (by kernel_rfl) (by kernel_rfl) [17] (by kernel_rfl) (by kernel_rfl) ?_
            simp -dsimp -implicitDefEqProofs (disch := omega) [go_sem, -List.getD_eq_getElem?_getD, ite_yes, htp, ht, hu, hk, e1]
            refine AAny.done (by kernel_rfl) ?_
            simp -dsimp -implicitDefEqProofs (disch := omega) [go_sem, -List.getD_eq_getElem?_getD, ite_yes, htp, ht, hu, hk, e1]
            exact ⟨weakS_mk [some 0, some 1] rfl (by simp -dsimp -implicitDefEqProofs (disch := omega) [go_sem, -List.getD_eq_getElem?_getD, ite_yes]; exact ⟨wl_net htp, .inl ⟨rfl, bl_flat _⟩⟩) (by simp -dsimp -implicitDefEqProofs (disch := omega) [go_sem, -List.getD_eq_getElem?_getD, ite_yes, htp, ht, hu])⟩
          · simp -dsimp -implicitDefEqProofs (disch := omega) [go_sem, -List.getD_eq_getElem?_getD, ite_yes, htp, ht, hu, hk, e1]
            refine ACall.of (wateredO_A n ps cp l hg 0 src hsrc (a.take k) _ tp (H.length + 3) hP.app (Sl.nth 3 rfl rfl)) ?_
            simp -dsimp -implicitDefEqProofs (disch := omega) [go_sem, -List.getD_eq_getElem?_getD, ite_yes, htp, ht, hu, hk, e1]
            refine AAt.of1 ?_
            refine AAny.one1 8 0 ?_
            simp -dsimp -implicitDefEqProofs (disch := omega) [go_sem, -List.getD_eq_getElem?_getD, ite_yes, htp, ht, hu, hk, e1]
            refine AAt.of1 ?_
            refine AAny.one1 7 10 ?_
            simp -dsimp -implicitDefEqProofs (disch := omega) [go_sem, -List.getD_eq_getElem?_getD, ite_yes, htp, ht, hu, hk, e1]
            refine ACall.of (touches_A n ps hpl cp (wetR ps (opL l (a.take k)) src) hwl v ⟨hv1, by omega⟩ r hr hrl _ tp (H.length + 4) hP.app (Sl.nth 4 rfl (blE_map _))) ?_
            simp -dsimp -implicitDefEqProofs (disch := omega) [go_sem, -List.getD_eq_getElem?_getD, ite_yes, htp, ht, hu, hk, e1]
            refine AAt.of1 ?_
            refine AAny.takes (fuel := 3) (by kernel_rfl) (by kernel_rfl) [11, 12, 14, 15] (by kernel_rfl) (by kernel_rfl) ?_
            simp -dsimp -implicitDefEqProofs (disch := omega) [go_sem, -List.getD_eq_getElem?_getD, ite_yes, htp, ht, hu, hk, e1]
            refine AAny.one1 2 13 ?_
            simp -dsimp -implicitDefEqProofs (disch := omega) [go_sem, -List.getD_eq_getElem?_getD, ite_yes, htp, ht, hu, hk, e1]
            refine AAt.of1 ?_
            refine AAny.one1 1 16 ?_
            simp -dsimp -implicitDefEqProofs (disch := omega) [go_sem, -List.getD_eq_getElem?_getD, ite_yes, htp, ht, hu, hk, e1]
            refine ACall.of (touches_A n ps hpl cp RA hRA v ⟨hv1, by omega⟩ r hr hrl _ tp (H.length + 1) hP.app (Sl.of1 (blE_map _))) ?_
            simp -dsimp -implicitDefEqProofs (disch := omega) [go_sem, -List.getD_eq_getElem?_getD, ite_yes, htp, ht, hu, hk, e1]
            refine AAt.of1 ?_
            refine AAny.takes (fuel := 0) (by kernel_rfl) (by kernel_rfl) [17] (by kernel_rfl) (by kernel_rfl) ?_
            simp -dsimp -implicitDefEqProofs (disch := omega) [go_sem, -List.getD_eq_getElem?_getD, ite_yes, htp, ht, hu, hk, e1]
            refine AAny.done (by kernel_rfl) ?_
            simp -dsimp -implicitDefEqProofs (disch := omega) [go_sem, -List.getD_eq_getElem?_getD, ite_yes, htp, ht, hu, hk, e1]
            exact ⟨weakS_mk [some 0, some 1] rfl (by simp -dsimp -implicitDefEqProofs (disch := omega) [go_sem, -List.getD_eq_getElem?_getD, ite_yes]; exact ⟨wl_net htp, .inl ⟨rfl, bl_flat _⟩⟩) (by simp -dsimp -implicitDefEqProofs (disch := omega) [go_sem, -List.getD_eq_getElem?_getD, ite_yes, htp, ht, hu])⟩
    cases e2 : tchB ps RA v <;> rw [e2] at hgb
    · simp -dsimp -implicitDefEqProofs (disch := omega) [go_sem, -List.getD_eq_getElem?_getD, ite_yes]
      refine LoopEnd.of (k + 1) ⟨by omega, hf.next hgb⟩ (by omega) (weakS_mk [some 0, some 1] rfl ?_ (by simp -dsimp -implicitDefEqProofs (disch := omega) [go_sem, -List.getD_eq_getElem?_getD, ite_yes, htp, ht, hu]))
      simp -dsimp -implicitDefEqProofs (disch := omega) [go_sem, -List.getD_eq_getElem?_getD, ite_yes]
      exact ⟨wl_net htp, .inl ⟨rfl, bl_flat _⟩⟩
    · simp -dsimp -implicitDefEqProofs (disch := omega) [go_sem, -List.getD_eq_getElem?_getD, ite_yes]
      exact fin_flat rfl (by rw [gtlN_no hlt hgb])
  · rw [e1, Bool.true_or] at hgb
    refine ADraw.mid [(1, .slice (some ⟨t, 0, none⟩) l.length c), (2, .int .i64 src), (3, .slice (some ⟨u, 0, none⟩) a.length d), (4, .pointer (some ⟨H.length, 0, none⟩)), (9, .pointer (some ⟨H.length + 1, 0, none⟩)), (19, .slice (some ⟨u, 0, none⟩) a.length d), (20, .int .i64 a.length), (21, .int .i64 k), (49, .bool false)] (H ++ [some ⟨[.int .i64 n, .slice (some ⟨tp, 0, none⟩) ps.length cp], true, 26, 1⟩, some ⟨RA.map .bool, true, 111, 1⟩]) ?_ ?_
    · skip
      refine ADraw.any (H ++ [none, none, some ⟨[.int .i64 v.1, .int .i64 v.2.1, .int .i64 v.2.2.1, .bool v.2.2.2], true, 71, 1⟩]) (by kernel_rfl) (by first | exact SubH.refl | exact SubH.app | exact SubH.both (by simp [subL])) ?_
      refine AAny.takes (fuel := 12) (by kernel_rfl) (by kernel_rfl) [2, 3, 4, 5, 7, 9] (by kernel_rfl) (by kernel_rfl) ?_
      simp -dsimp -implicitDefEqProofs (disch := omega) [go_sem, -List.getD_eq_getElem?_getD, ite_yes, htp, ht, hu, hk, e1]
      refine AAny.three 11 0 1 6 (by kernel_rfl) (by kernel_rfl) (by kernel_rfl) ?_ ?_ ?_
      · simp -dsimp -implicitDefEqProofs (disch := omega) [go_sem, -List.getD_eq_getElem?_getD, ite_yes, htp, ht, hu, hk, e1]
        refine AAt.of1 ?_
        refine AAny.two 10 1 6 (by kernel_rfl) (by kernel_rfl) (by kernel_rfl) ?_ ?_
        · simp -dsimp -implicitDefEqProofs (disch := omega) [go_sem, -List.getD_eq_getElem?_getD, ite_yes, htp, ht, hu, hk, e1]
          refine AAt.of1 ?_
          refine AAny.one1 9 6 ?_
          simp -dsimp -implicitDefEqProofs (disch := omega) [go_sem, -List.getD_eq_getElem?_getD, ite_yes, htp, ht, hu, hk, e1]
          refine ACall.of (openedT_A l (by omega) c a k hk (by omega) k _ t u hS.app hU.app) ?_
          simp -dsimp -implicitDefEqProofs (disch := omega) [go_sem, -List.getD_eq_getElem?_getD, ite_yes, htp, ht, hu, hk, e1]
          refine AAt.of1 ?_
          refine AAny.one1 8 8 ?_
          simp -dsimp -implicitDefEqProofs (disch := omega) [go_sem, -List.getD_eq_getElem?_getD, ite_yes, htp, ht, hu, hk, e1]
          refine ACall.of (wateredO_A n ps cp l hg 0 src hsrc (a.take k) _ tp (H.length + 3) hP.app (Sl.nth 3 rfl rfl)) ?_
          simp -dsimp -implicitDefEqProofs (disch := omega) [go_sem, -List.getD_eq_getElem?_getD, ite_yes, htp, ht, hu, hk, e1]
          refine AAt.of1 ?_
          refine AAny.one1 7 10 ?_
          simp -dsimp -implicitDefEqProofs (disch := omega) [go_sem, -List.getD_eq_getElem?_getD, ite_yes, htp, ht, hu, hk, e1]
          refine ACall.of (touches_A n ps hpl cp (wetR ps (opL l (a.take k)) src) hwl v ⟨hv1, by omega⟩ r hr hrl _ tp (H.length + 4) hP.app (Sl.nth 4 rfl (blE_map _))) ?_
          simp -dsimp -implicitDefEqProofs (disch := omega) [go_sem, -List.getD_eq_getElem?_getD, ite_yes, htp, ht, hu, hk, e1]
          refine AAt.of1 ?_
          refine AAny.takes (fuel := 3) (by kernel_rfl) (by kernel_rfl) [11, 12, 14, 15] (by kernel_rfl) (by kernel_rfl) ?_
          simp -dsimp -implicitDefEqProofs (disch := omega) [go_sem, -List.getD_eq_getElem?_getD, ite_yes, htp, ht, hu, hk, e1]
          refine AAny.one1 2 13 ?_
          simp -dsimp -implicitDefEqProofs (disch := omega) [go_sem, -List.getD_eq_getElem?_getD, ite_yes, htp, ht, hu, hk, e1]
          refine AAt.of1 ?_
          refine AAny.one1 1 16 ?_
          simp -dsimp -implicitDefEqProofs (disch := omega) [go_sem, -List.getD_eq_getElem?_getD, ite_yes, htp, ht, hu, hk, e1]
          refine AAt.of1 ?_
          refine AAny.takes (fuel := 0) (by kernel_rfl) (by kernel_rfl) [17] (by kernel_rfl) (by kernel_rfl) ?_
          simp -dsimp -implicitDefEqProofs (disch := omega) [go_sem, -List.getD_eq_getElem?_getD, ite_yes, htp, ht, hu, hk, e1]
          refine AAny.done (by kernel_rfl) ?_
          simp -dsimp -implicitDefEqProofs (disch := omega) [go_sem, -List.getD_eq_getElem?_getD, ite_yes, htp, ht, hu, hk, e1]
          exact ⟨weakS_mk [some 0, some 1] rfl (by simp -dsimp -implicitDefEqProofs (disch := omega) [go_sem, -List.getD_eq_getElem?_getD, ite_yes]; exact ⟨wl_net htp, .inl ⟨rfl, bl_flat _⟩⟩) (by simp -dsimp -implicitDefEqProofs (disch := omega) [go_sem, -List.getD_eq_getElem?_getD, ite_yes, htp, ht, hu])⟩
        · simp -dsimp -implicitDefEqProofs (disch := omega) [go_sem, -List.getD_eq_getElem?_getD, ite_yes, htp, ht, hu, hk, e1]
          refine ACall.of (openedT_A l (by omega) c a k hk (by omega) k _ t u hS.app hU.app) ?_
          simp -dsimp -implicitDefEqProofs (disch := omega) [go_sem, -List.getD_eq_getElem?_getD, ite_yes, htp, ht, hu, hk, e1]
          refine AAt.of1 ?_
          refine AAny.one1 9 1 ?_
          simp -dsimp -implicitDefEqProofs (disch := omega) [go_sem, -List.getD_eq_getElem?_getD, ite_yes, htp, ht, hu, hk, e1]
          refine AAt.of1 ?_
          refine AAny.one1 8 8 ?_
          simp -dsimp -implicitDefEqProofs (disch := omega) [go_sem, -List.getD_eq_getElem?_getD, ite_yes, htp, ht, hu, hk, e1]
          refine ACall.of (wateredO_A n ps cp l hg 0 src hsrc (a.take k) _ tp (H.length + 3) hP.app (Sl.nth 3 rfl rfl)) ?_
          simp -dsimp -implicitDefEqProofs (disch := omega) [go_sem, -List.getD_eq_getElem?_getD, ite_yes, htp, ht, hu, hk, e1]
          refine AAt.of1 ?_
          refine AAny.one1 7 10 ?_
          simp -dsimp -implicitDefEqProofs (disch := omega) [go_sem, -List.getD_eq_getElem?_getD, ite_yes, htp, ht, hu, hk, e1]
          refine ACall.of (touches_A n ps hpl cp (wetR ps (opL l (a.take k)) src) hwl v ⟨hv1, by omega⟩ r hr hrl _ tp (H.length + 4) hP.app (Sl.nth 4 rfl (blE_map _))) ?_
          simp -dsimp -implicitDefEqProofs (disch := omega) [go_sem, -List.getD_eq_getElem?_getD, ite_yes, htp, ht, hu, hk, e1]
          refine AAt.of1 ?_
          refine AAny.takes (fuel := 3) (by kernel_rfl) (by kernel_rfl) [11, 12, 14, 15] (by kernel_rfl) (by kernel_rfl) ?_
          simp -dsimp -implicitDefEqProofs (disch := omega) [go_sem, -List.getD_eq_getElem?_getD, ite_yes, htp, ht, hu, hk, e1]
          refine AAny.one1 2 13 ?_
          simp -dsimp -implicitDefEqProofs (disch := omega) [go_sem, -List.getD_eq_getElem?_getD, ite_yes, htp, ht, hu, hk, e1]
          refine AAt.of1 ?_
          refine AAny.one1 1 16 ?_
          simp -dsimp -implicitDefEqProofs (disch := omega) [go_sem, -List.getD_eq_getElem?_getD, ite_yes, htp, ht, hu, hk, e1]
          refine AAt.of1 ?_
          refine AAny.takes (fuel := 0) (by kernel_rfl) (by kernel_rfl) [17] (by kernel_rfl) (by kernel_rfl) ?_
          simp -dsimp -implicitDefEqProofs (disch := omega) [go_sem, -List.getD_eq_getElem?_getD, ite_yes, htp, ht, hu, hk, e1]
          refine AAny.done (by kernel_rfl) ?_
          simp -dsimp -implicitDefEqProofs (disch := omega) [go_sem, -List.getD_eq_getElem?_getD, ite_yes, htp, ht, hu, hk, e1]
          exact ⟨weakS_mk [some 0, some 1] rfl (by simp -dsimp -implicitDefEqProofs (disch := omega) [go_sem, -List.getD_eq_getElem?_getD, ite_yes]; exact ⟨wl_net htp, .inl ⟨rfl, bl_flat _⟩⟩) (by simp -dsimp -implicitDefEqProofs (disch := omega) [go_sem, -List.getD_eq_getElem?_getD, ite_yes, htp, ht, hu])⟩
      · simp -dsimp -implicitDefEqProofs (disch := omega) [go_sem, -List.getD_eq_getElem?_getD, ite_yes, htp, ht, hu, hk, e1]
        refine AAt.of1 ?_
        refine AAny.two 10 0 6 (by kernel_rfl) (by kernel_rfl) (by kernel_rfl) ?_ ?_
        · simp -dsimp -implicitDefEqProofs (disch := omega) [go_sem, -List.getD_eq_getElem?_getD, ite_yes, htp, ht, hu, hk, e1]
          refine AAt.of1 ?_
          refine AAny.one1 9 6 ?_
          simp -dsimp -implicitDefEqProofs (disch := omega) [go_sem, -List.getD_eq_getElem?_getD, ite_yes, htp, ht, hu, hk, e1]
          refine ACall.of (openedT_A l (by omega) c a k hk (by omega) k _ t u hS.app hU.app) ?_
          simp -dsimp -implicitDefEqProofs (disch := omega) [go_sem, -List.getD_eq_getElem?_getD, ite_yes, htp, ht, hu, hk, e1]
          refine AAt.of1 ?_
          refine AAny.one1 8 8 ?_
          simp -dsimp -implicitDefEqProofs (disch := omega) [go_sem, -List.getD_eq_getElem?_getD, ite_yes, htp, ht, hu, hk, e1]
          refine ACall.of (wateredO_A n ps cp l hg 0 src hsrc (a.take k) _ tp (H.length + 3) hP.app (Sl.nth 3 rfl rfl)) ?_
          simp -dsimp -implicitDefEqProofs (disch := omega) [go_sem, -List.getD_eq_getElem?_getD, ite_yes, htp, ht, hu, hk, e1]
          refine AAt.of1 ?_
          refine AAny.one1 7 10 ?_
          simp -dsimp -implicitDefEqProofs (disch := omega) [go_sem, -List.getD_eq_getElem?_getD, ite_yes, htp, ht, hu, hk, e1]
          refine ACall.of (touches_A n ps hpl cp (wetR ps (opL l (a.take k)) src) hwl v ⟨hv1, by omega⟩ r hr hrl _ tp (H.length + 4) hP.app (Sl.nth 4 rfl (blE_map _))) ?_
          simp -dsimp -implicitDefEqProofs (disch := omega) [go_sem, -List.getD_eq_getElem?_getD, ite_yes, htp, ht, hu, hk, e1]
          refine AAt.of1 ?_
          refine AAny.takes (fuel := 3) (by kernel_rfl) (by kernel_rfl) [11, 12, 14, 15] (by kernel_rfl) (by kernel_rfl) ?_
          simp -dsimp -implicitDefEqProofs (disch := omega) [go_sem, -List.getD_eq_getElem?_getD, ite_yes, htp, ht, hu, hk, e1]
          refine AAny.one1 2 13 ?_
          simp -dsimp -implicitDefEqProofs (disch := omega) [go_sem, -List.getD_eq_getElem?_getD, ite_yes, htp, ht, hu, hk, e1]
          refine AAt.of1 ?_
          refine AAny.one1 1 16 ?_
          simp -dsimp -implicitDefEqProofs (disch := omega) [go_sem, -List.getD_eq_getElem?_getD, ite_yes, htp, ht, hu, hk, e1]
          refine AAt.of1 ?_
          refine AAny.takes (fuel := 0) (by kernel_rfl) (by kernel_rfl) [17] (by kernel_rfl) (by kernel_rfl) ?_
          simp -dsimp -implicitDefEqProofs (disch := omega) [go_sem, -List.getD_eq_getElem?_getD, ite_yes, htp, ht, hu, hk, e1]
          refine AAny.done (by kernel_rfl) ?_
          simp -dsimp -implicitDefEqProofs (disch := omega) [go_sem, -List.getD_eq_getElem?_getD, ite_yes, htp, ht, hu, hk, e1]
          exact ⟨weakS_mk [some 0, some 1] rfl (by simp -dsimp -implicitDefEqProofs (disch := omega) [go_sem, -List.getD_eq_getElem?_getD, ite_yes]; exact ⟨wl_net htp, .inl ⟨rfl, bl_flat _⟩⟩) (by simp -dsimp -implicitDefEqProofs (disch := omega) [go_sem, -List.getD_eq_getElem?_getD, ite_yes, htp, ht, hu])⟩
        · simp -dsimp -implicitDefEqProofs (disch := omega) [go_sem, -List.getD_eq_getElem?_getD, ite_yes, htp, ht, hu, hk, e1]
          refine ACall.of (openedT_A l (by omega) c a k hk (by omega) k _ t u hS.app hU.app) ?_
          simp -dsimp -implicitDefEqProofs (disch := omega) [go_sem, -List.getD_eq_getElem?_getD, ite_yes, htp, ht, hu, hk, e1]
          refine AAt.of1 ?_
          refine AAny.two 9 0 8 (by kernel_rfl) (by kernel_rfl) (by kernel_rfl) ?_ ?_
          · simp -dsimp -implicitDefEqProofs (disch := omega) [go_sem, -List.getD_eq_getElem?_getD, ite_yes, htp, ht, hu, hk, e1]
            refine AAt.of1 ?_
            refine AAny.one1 8 8 ?_
            simp -dsimp -implicitDefEqProofs (disch := omega) [go_sem, -List.getD_eq_getElem?_getD, ite_yes, htp, ht, hu, hk, e1]
            refine ACall.of (wateredO_A n ps cp l hg 0 src hsrc (a.take k) _ tp (H.length + 3) hP.app (Sl.nth 3 rfl rfl)) ?_
            simp -dsimp -implicitDefEqProofs (disch := omega) [go_sem, -List.getD_eq_getElem?_getD, ite_yes, htp, ht, hu, hk, e1]
            refine AAt.of1 ?_
            refine AAny.one1 7 10 ?_
            simp -dsimp -implicitDefEqProofs (disch := omega) [go_sem, -List.getD_eq_getElem?_getD, ite_yes, htp, ht, hu, hk, e1]
            refine ACall.of (touches_A n ps hpl cp (wetR ps (opL l (a.take k)) src) hwl v ⟨hv1, by omega⟩ r hr hrl _ tp (H.length + 4) hP.app (Sl.nth 4 rfl (blE_map _))) ?_
            simp -dsimp -implicitDefEqProofs (disch := omega) [go_sem, -List.getD_eq_getElem?_getD, ite_yes, htp, ht, hu, hk, e1]
            refine AAt.of1 ?_
            refine AAny.takes (fuel := 3) (by kernel_rfl) (by kernel_rfl) [11, 12, 14, 15] (by kernel_rfl) (by kernel_rfl) ?_
            simp -dsimp -implicitDefEqProofs (disch := omega) [go_sem, -List.getD_eq_getElem?_getD, ite_yes, htp, ht, hu, hk, e1]
            refine AAny.one1 2 13 ?_
            simp -dsimp -implicitDefEqProofs (disch := omega) [go_sem, -List.getD_eq_getElem?_getD, ite_yes, htp, ht, hu, hk, e1]
            refine AAt.of1 ?_
            refine AAny.one1 1 16 ?_
            simp -dsimp -implicitDefEqProofs (disch := omega) [go_sem, -List.getD_eq_getElem?_getD, ite_yes, htp, ht, hu, hk, e1]
            refine AAt.of1 ?_
            refine AAny.takes (fuel := 0) (by kernel_rfl) (by kernel_rfl) [17] (by kernel_rfl) (by kernel_rfl) ?_
            simp -dsimp -implicitDefEqProofs (disch := omega) [go_sem, -List.getD_eq_getElem?_getD, ite_yes, htp, ht, hu, hk, e1]
            refine AAny.done (by kernel_rfl) ?_
            simp -dsimp -implicitDefEqProofs (disch := omega) [go_sem, -List.getD_eq_getElem?_getD, ite_yes, htp, ht, hu, hk, e1]
            exact ⟨weakS_mk [some 0, some 1] rfl (by simp -dsimp -implicitDefEqProofs (disch := omega) [go_sem, -List.getD_eq_getElem?_getD, ite_yes]; exact ⟨wl_net htp, .inl ⟨rfl, bl_flat _⟩⟩) (by simp -dsimp -implicitDefEqProofs (disch := omega) [go_sem, -List.getD_eq_getElem?_getD, ite_yes, htp, ht, hu])⟩
          · simp -dsimp -implicitDefEqProofs (disch := omega) [go_sem, -List.getD_eq_getElem?_getD, ite_yes, htp, ht, hu, hk, e1]
            refine ACall.of (wateredO_A n ps cp l hg 0 src hsrc (a.take k) _ tp (H.length + 3) hP.app (Sl.nth 3 rfl rfl)) ?_
            simp -dsimp -implicitDefEqProofs (disch := omega) [go_sem, -List.getD_eq_getElem?_getD, ite_yes, htp, ht, hu, hk, e1]
            refine AAt.of1 ?_
            refine AAny.one1 8 0 ?_
            simp -dsimp -implicitDefEqProofs (disch := omega) [go_sem, -List.getD_eq_getElem?_getD, ite_yes, htp, ht, hu, hk, e1]
            refine AAt.of1 ?_
            refine AAny.one1 7 10 ?_
            simp -dsimp -implicitDefEqProofs (disch := omega) [go_sem, -List.getD_eq_getElem?_getD, ite_yes, htp, ht, hu, hk, e1]
            refine ACall.of (touches_A n ps hpl cp (wetR ps (opL l (a.take k)) src) hwl v ⟨hv1, by omega⟩ r hr hrl _ tp (H.length + 4) hP.app (Sl.nth 4 rfl (blE_map _))) ?_
            simp -dsimp -implicitDefEqProofs (disch := omega) [go_sem, -List.getD_eq_getElem?_getD, ite_yes, htp, ht, hu, hk, e1]
            refine AAt.of1 ?_
            refine AAny.takes (fuel := 3) (by kernel_rfl) (by kernel_rfl) [11, 12, 14, 15] (by kernel_rfl) (by kernel_rfl) ?_
            simp -dsimp -implicitDefEqProofs (disch := omega) [go_sem, -List.getD_eq_getElem?_getD, ite_yes, htp, ht, hu, hk, e1]
            refine AAny.one1 2 13 ?_
            simp -dsimp -implicitDefEqProofs (disch := omega) [go_sem, -List.getD_eq_getElem?_getD, ite_yes, htp, ht, hu, hk, e1]
            refine AAt.of1 ?_
            refine AAny.one1 1 16 ?_
            simp -dsimp -implicitDefEqProofs (disch := omega) [go_sem, -List.getD_eq_getElem?_getD, ite_yes, htp, ht, hu, hk, e1]
            refine AAt.of1 ?_
            refine AAny.takes (fuel := 0) (by kernel_rfl) (by kernel_rfl) [17] (by kernel_rfl) (by kernel_rfl) ?_
            simp -dsimp -implicitDefEqProofs (disch := omega) [go_sem, -List.getD_eq_getElem?_getD, ite_yes, htp, ht, hu, hk, e1]
            refine AAny.done (by kernel_rfl) ?_
            simp -dsimp -implicitDefEqProofs (disch := omega) [go_sem, -List.getD_eq_getElem?_getD, ite_yes, htp, ht, hu, hk, e1]
            exact ⟨weakS_mk [some 0, some 1] rfl (by simp -dsimp -implicitDefEqProofs (disch := omega) [go_sem, -List.getD_eq_getElem?_getD, ite_yes]; exact ⟨wl_net htp, .inl ⟨rfl, bl_flat _⟩⟩) (by simp -dsimp -implicitDefEqProofs (disch := omega) [go_sem, -List.getD_eq_getElem?_getD, ite_yes, htp, ht, hu])⟩
      · simp -dsimp -implicitDefEqProofs (disch := omega) [go_sem, -List.getD_eq_getElem?_getD, ite_yes, htp, ht, hu, hk, e1]
        refine ACall.of (openedT_A l (by omega) c a k hk (by omega) k _ t u hS.app hU.app) ?_
        simp -dsimp -implicitDefEqProofs (disch := omega) [go_sem, -List.getD_eq_getElem?_getD, ite_yes, htp, ht, hu, hk, e1]
        refine AAt.of1 ?_
        refine AAny.two 10 0 1 (by kernel_rfl) (by kernel_rfl) (by kernel_rfl) ?_ ?_
        · simp -dsimp -implicitDefEqProofs (disch := omega) [go_sem, -List.getD_eq_getElem?_getD, ite_yes, htp, ht, hu, hk, e1]
          refine AAt.of1 ?_
          refine AAny.one1 9 1 ?_
          simp -dsimp -implicitDefEqProofs (disch := omega) [go_sem, -List.getD_eq_getElem?_getD, ite_yes, htp, ht, hu, hk, e1]
          refine AAt.of1 ?_
          refine AAny.one1 8 8 ?_
          simp -dsimp -implicitDefEqProofs (disch := omega) [go_sem, -List.getD_eq_getElem?_getD, ite_yes, htp, ht, hu, hk, e1]
          refine ACall.of (wateredO_A n ps cp l hg 0 src hsrc (a.take k) _ tp (H.length + 3) hP.app (Sl.nth 3 rfl rfl)) ?_
          simp -dsimp -implicitDefEqProofs (disch := omega) [go_sem, -List.getD_eq_getElem?_getD, ite_yes, htp, ht, hu, hk, e1]
          refine AAt.of1 ?_
          refine AAny.one1 7 10 ?_
          simp -dsimp -implicitDefEqProofs (disch := omega) [go_sem, -List.getD_eq_getElem?_getD, ite_yes, htp, ht, hu, hk, e1]
          refine ACall.of (touches_A n ps hpl cp (wetR ps (opL l (a.take k)) src) hwl v ⟨hv1, by omega⟩ r hr hrl _ tp (H.length + 4) hP.app (Sl.nth 4 rfl (blE_map _))) ?_
          simp -dsimp -implicitDefEqProofs (disch := omega) [go_sem, -List.getD_eq_getElem?_getD, ite_yes, htp, ht, hu, hk, e1]
          refine AAt.of1 ?_
          refine AAny.takes (fuel := 3) (by kernel_rfl) (by kernel_rfl) [11, 12, 14, 15] (by kernel_rfl) (by kernel_rfl) ?_
          simp -dsimp -implicitDefEqProofs (disch := omega) [go_sem, -List.getD_eq_getElem?_getD, ite_yes, htp, ht, hu, hk, e1]
          refine AAny.one1 2 13 ?_
          simp -dsimp -implicitDefEqProofs (disch := omega) [go_sem, -List.getD_eq_getElem?_getD, ite_yes, htp, ht, hu, hk, e1]
          refine AAt.of1 ?_
          refine AAny.one1 1 16 ?_
          simp -dsimp -implicitDefEqProofs (disch := omega) [go_sem, -List.getD_eq_getElem?_getD, ite_yes, htp, ht, hu, hk, e1]
          refine AAt.of1 ?_
          refine AAny.takes (fuel := 0) (by kernel_rfl) (by kernel_rfl) [17] (by kernel_rfl) (by kernel_rfl) ?_
          simp -dsimp -implicitDefEqProofs (disch := omega) [go_sem, -List.getD_eq_getElem?_getD, ite_yes, htp, ht, hu, hk, e1]
          refine AAny.done (by kernel_rfl) ?_
          simp -dsimp -implicitDefEqProofs (disch := omega) [go_sem, -List.getD_eq_getElem?_getD, ite_yes, htp, ht, hu, hk, e1]
          exact ⟨weakS_mk [some 0, some 1] rfl (by simp -dsimp -implicitDefEqProofs (disch := omega) [go_sem, -List.getD_eq_getElem?_getD, ite_yes]; exact ⟨wl_net htp, .inl ⟨rfl, bl_flat _⟩⟩) (by simp -dsimp -implicitDefEqProofs (disch := omega) [go_sem, -List.getD_eq_getElem?_getD, ite_yes, htp, ht, hu])⟩
        · simp -dsimp -implicitDefEqProofs (disch := omega) [go_sem, -List.getD_eq_getElem?_getD, ite_yes, htp, ht, hu, hk, e1]
          refine AAt.of1 ?_
          refine AAny.two 9 0 8 (by kernel_rfl) (by kernel_rfl) (by kernel_rfl) ?_ ?_
          · simp -dsimp -implicitDefEqProofs (disch := omega) [go_sem, -List.getD_eq_getElem?_getD, ite_yes, htp, ht, hu, hk, e1]
            refine AAt.of1 ?_
            refine AAny.one1 8 8 ?_
            simp -dsimp -implicitDefEqProofs (disch := omega) [go_sem, -List.getD_eq_getElem?_getD, ite_yes, htp, ht, hu, hk, e1]
            refine ACall.of (wateredO_A n ps cp l hg 0 src hsrc (a.take k) _ tp (H.length + 3) hP.app (Sl.nth 3 rfl rfl)) ?_
            simp -dsimp -implicitDefEqProofs (disch := omega) [go_sem, -List.getD_eq_getElem?_getD, ite_yes, htp, ht, hu, hk, e1]
            refine AAt.of1 ?_
            refine AAny.one1 7 10 ?_
            simp -dsimp -implicitDefEqProofs (disch := omega) [go_sem, -List.getD_eq_getElem?_getD, ite_yes, htp, ht, hu, hk, e1]
            refine ACall.of (touches_A n ps hpl cp (wetR ps (opL l (a.take k)) src) hwl v ⟨hv1, by omega⟩ r hr hrl _ tp (H.length + 4) hP.app (Sl.nth 4 rfl (blE_map _))) ?_
            simp -dsimp -implicitDefEqProofs (disch := omega) [go_sem, -List.getD_eq_getElem?_getD, ite_yes, htp, ht, hu, hk, e1]
            refine AAt.of1 ?_
            refine AAny.takes (fuel := 3) (by kernel_rfl) (by kernel_rfl) [11, 12, 14, 15] (by kernel_rfl) (by kernel_rfl) ?_
            simp -dsimp -implicitDefEqProofs (disch := omega) [go_sem, -List.getD_eq_getElem?_getD, ite_yes, htp, ht, hu, hk, e1]
            refine AAny.one1 2 13 ?_
            simp -dsimp -implicitDefEqProofs (disch := omega) [go_sem, -List.getD_eq_getElem?_getD, ite_yes, htp, ht, hu, hk, e1]
            refine AAt.of1 ?_
            refine AAny.one1 1 16 ?_
            simp -dsimp -implicitDefEqProofs (disch := omega) [go_sem, -List.getD_eq_getElem?_getD, ite_yes, htp, ht, hu, hk, e1]
            refine AAt.of1 ?_
            refine AAny.takes (fuel := 0) (by kernel_rfl) (by kernel_rfl) [17] (by kernel_rfl) (by kernel_rfl) ?_
            simp -dsimp -implicitDefEqProofs (disch := omega) [go_sem, -List.getD_eq_getElem?_getD, ite_yes, htp, ht, hu, hk, e1]
            refine AAny.done (by kernel_rfl) ?_
            simp -dsimp -implicitDefEqProofs (disch := omega) [go_sem, -List.getD_eq_getElem?_getD, ite_yes, htp, ht, hu, hk, e1]
            exact ⟨weakS_mk [some 0, some 1] rfl (by simp -dsimp -implicitDefEqProofs (disch := omega) [go_sem, -List.getD_eq_getElem?_getD, ite_yes]; exact ⟨wl_net htp, .inl ⟨rfl, bl_flat _⟩⟩) (by simp -dsimp -implicitDefEqProofs (disch := omega) [go_sem, -List.getD_eq_getElem?_getD, ite_yes, htp, ht, hu])⟩
          · simp -dsimp -implicitDefEqProofs (disch := omega) [go_sem, -List.getD_eq_getElem?_getD, ite_yes, htp, ht, hu, hk, e1]
            refine ACall.of (wateredO_A n ps cp l hg 0 src hsrc (a.take k) _ tp (H.length + 3) hP.app (Sl.nth 3 rfl rfl)) ?_
            simp -dsimp -implicitDefEqProofs (disch := omega) [go_sem, -List.getD_eq_getElem?_getD, ite_yes, htp, ht, hu, hk, e1]
            refine AAt.of1 ?_
            refine AAny.one1 8 0 ?_
            simp -dsimp -implicitDefEqProofs (disch := omega) [go_sem, -List.getD_eq_getElem?_getD, ite_yes, htp, ht, hu, hk, e1]
            refine AAt.of1 ?_
            refine AAny.one1 7 10 ?_
            simp -dsimp -implicitDefEqProofs (disch := omega) [go_sem, -List.getD_eq_getElem?_getD, ite_yes, htp, ht, hu, hk, e1]
            refine ACall.of (touches_A n ps hpl cp (wetR ps (opL l (a.take k)) src) hwl v ⟨hv1, by omega⟩ r hr hrl _ tp (H.length + 4) hP.app (Sl.nth 4 rfl (blE_map _))) ?_
            simp -dsimp -implicitDefEqProofs (disch := omega) [go_sem, -List.getD_eq_getElem?_getD, ite_yes, htp, ht, hu, hk, e1]
            refine AAt.of1 ?_
            refine AAny.takes (fuel := 3) (by kernel_rfl) (by kernel_rfl) [11, 12, 14, 15] (by kernel_rfl) (by kernel_rfl) ?_
            simp -dsimp -implicitDefEqProofs (disch := omega) [go_sem, -List.getD_eq_getElem?_getD, ite_yes, htp, ht, hu, hk, e1]
            refine AAny.one1 2 13 ?_
            simp -dsimp -implicitDefEqProofs (disch := omega) [go_sem, -List.getD_eq_getElem?_getD, ite_yes, htp, ht, hu, hk, e1]
            refine AAt.of1 ?_
            refine AAny.one1 1 16 ?_
            simp -dsimp -implicitDefEqProofs (disch := omega) [go_sem, -List.getD_eq_getElem?_getD, ite_yes, htp, ht, hu, hk, e1]
            refine AAt.of1 ?_
            refine AAny.takes (fuel := 0) (by kernel_rfl) (by kernel_rfl) [17] (by kernel_rfl) (by kernel_rfl) ?_
            simp -dsimp -implicitDefEqProofs (disch := omega) [go_sem, -List.getD_eq_getElem?_getD, ite_yes, htp, ht, hu, hk, e1]
            refine AAny.done (by kernel_rfl) ?_
            simp -dsimp -implicitDefEqProofs (disch := omega) [go_sem, -List.getD_eq_getElem?_getD, ite_yes, htp, ht, hu, hk, e1]
            exact ⟨weakS_mk [some 0, some 1] rfl (by simp -dsimp -implicitDefEqProofs (disch := omega) [go_sem, -List.getD_eq_getElem?_getD, ite_yes]; exact ⟨wl_net htp, .inl ⟨rfl, bl_flat _⟩⟩) (by simp -dsimp -implicitDefEqProofs (disch := omega) [go_sem, -List.getD_eq_getElem?_getD, ite_yes, htp, ht, hu])⟩
    simp -dsimp -implicitDefEqProofs (disch := omega) [go_sem, -List.getD_eq_getElem?_getD, ite_yes]
    refine LoopEnd.of (k + 1) ⟨by omega, hf.next hgb⟩ (by omega) (weakS_mk [some 0, some 1] rfl ?_ (by simp -dsimp -implicitDefEqProofs (disch := omega) [go_sem, -List.getD_eq_getElem?_getD, ite_yes, htp, ht, hu]))
    simp -dsimp -implicitDefEqProofs (disch := omega) [go_sem, -List.getD_eq_getElem?_getD, ite_yes]
    exact ⟨wl_net htp, .inl ⟨rfl, bl_flat _⟩⟩
theorem iIsGentle_A (n : Int) (ps : List Pp) (hps : ps.length ≤ 1048577) (cp : Nat) (l : List Vl) (hl : l.length ≤ 1048577) (c : Nat) (src : Int) (a : List Int) (ha : a.length ≤ 1048577) (d : Nat) (H : Heap) (tp t u : Nat) (hP : Sl ppE H tp ps) (hS : Sl vlE H t l) (hU : Sl nmE H u a) :
    AFunC Tryz.prog 10 [netV n tp ps.length cp, .slice (some ⟨t, 0, none⟩) l.length c, .int .i64 src, .slice (some ⟨u, 0, none⟩) a.length d] H (.tuple #[.bool (isOrd n ps l src a && gtlN ps l src a), .bool (isOrd n ps l src a)]) H := by
  refine AFunC.of_body Tryz.func10 (by kernel_rfl) rfl (by kernel_rfl) (by simp [Tryz.ntmps10]) ?_
  have htp := hP.lt
  have ht := hS.lt
  have hu := hU.lt
  simp -dsimp -implicitDefEqProofs (disch := omega) [go_sem, -List.getD_eq_getElem?_getD, ite_yes, htp, ht, hu]
  refine ACall.of (iIsOrder_A n ps hps cp l hl c src a ha d _ tp t u hP.app hS.app hU.app) ?_
  cases ho : isOrd n ps l src a
  · simp -dsimp -implicitDefEqProofs (disch := omega) [go_sem, -List.getD_eq_getElem?_getD, ite_yes]
    exact fin_flat rfl rfl
  simp -dsimp -implicitDefEqProofs (disch := omega) [go_sem, -List.getD_eq_getElem?_getD, ite_yes, htp, ht, hu]
  refine ACall.of (isGentle_A n ps cp l c src a ho d _ tp t u hP.app hS.app hU.app) ?_
  simp -dsimp -implicitDefEqProofs (disch := omega) [go_sem, -List.getD_eq_getElem?_getD, ite_yes]
  exact fin_flat rfl rfl
end Go.Proofs.YtncblopbcnkinaaGreat
/- WaitingOf: both sides, and the law. -/
namespace Go.Proofs.YtncblopbcnkinaaGreat
open Go.Am
set_option linter.unusedVariables false
set_option linter.unusedSimpArgs false
set_option maxRecDepth 100000
set_option maxHeartbeats 4000000

def notC (x : Int) : Bool := !inB x 0 1000
/-- whether there is a valid number of customers at each node -/
def custOk (n : Int) (cu : List Int) : Bool := decide ((cu.length : Int) = n) && !decide (0 ≤ ixOf notC cu)
theorem custOk_at {n : Int} {cu : List Int} (h : custOk n cu = true) : (cu.length : Int) = n ∧ ∀ i, 0 ≤ cu.getD i 0 ∧ cu.getD i 0 ≤ 1000 := by
  unfold custOk at h
  simp only [Bool.and_eq_true, decide_eq_true_eq, Bool.not_eq_true', decide_eq_false_iff_not] at h
  refine ⟨h.1, fun i => ?_⟩
  rcases ix_cases 0 notC cu with ⟨_, h2⟩ | ⟨q, h1, _⟩
  · by_cases hi : i < cu.length
    · have := h2 i hi
      simp [notC, inB, -List.getD_eq_getElem?_getD] at this
      omega
    · rw [List.getD_eq_getElem?_getD, List.getElem?_eq_none (by omega)]; simp
  · omega
theorem indexFuncNm_A (l : List Int) (p : Int → Bool) (g : Nat) (cap : Array Value) (hl : l.length ≤ 1048577) (c : Nat) (H : Heap) (t : Nat) (hS : Sl nmE H t l) (hc : L2 (WMP (sg H.length []) H.length) cap.toList cap.toList)
    (hp : ∀ k, k < l.length → AFunC Tryz.prog g (.int .i64 (l.getD k 0) :: cap.toList) H (.bool (p (l.getD k 0))) H) :
    AFunC Tryz.prog 71 [.slice (some ⟨t, 0, none⟩) l.length c, .func (.func g) #[] cap] H (.int .i64 (ixOf p l)) H := by
  refine AFunC.of_body Tryz.func71 (by kernel_rfl) rfl (by kernel_rfl) (by simp [Tryz.ntmps71]) ?_
  have ht := hS.lt
  have cs := fun k hk => hS.one (g := fun n => Value.int .i64 n) 0 k hk
  have hr := found_ix 0 p l
  simp -dsimp -implicitDefEqProofs (disch := omega) [go_sem, -List.getD_eq_getElem?_getD, ite_yes]
  refine ALoop.intro (ι := Nat) (fun k => k ≤ l.length ∧ findTo 0 p l k) (fun k => [(0, .slice (some ⟨t, 0, none⟩) l.length c), (1, .func (.func g) #[] cap), (7, .int .i64 l.length), (8, .int .i64 k)]) (fun _ => H) (fun k => l.length - k) 0 ⟨by omega, fun i hi => by omega⟩ ?_ ?_
  · exact weakS_same (by simp -dsimp -implicitDefEqProofs (disch := omega) [go_sem, -List.getD_eq_getElem?_getD, ite_yes, ht]; simpa using hc)
  · rintro k ⟨hk, hf⟩
    by_cases hlt : k < l.length
    · simp -dsimp -implicitDefEqProofs (disch := omega) [go_sem, -List.getD_eq_getElem?_getD, ite_yes, hlt, cs]
      refine ACall.of (hp k hlt) ?_
      simp -dsimp -implicitDefEqProofs (disch := omega) [go_sem, -List.getD_eq_getElem?_getD, ite_yes]
      refine AIf.of (fun h => ?_) (fun h => ?_)
      · simp -dsimp -implicitDefEqProofs (disch := omega) [go_sem, -List.getD_eq_getElem?_getD, ite_yes]
        have := found_uniq hr (.yes k hlt h hf)
        exact fin_flat0 rfl (by rw [this])
      · simp -dsimp -implicitDefEqProofs (disch := omega) [go_sem, -List.getD_eq_getElem?_getD, ite_yes]
        exact LoopEnd.of (k + 1) ⟨by omega, hf.next h⟩ (by omega) (weakS_same (by simp -dsimp -implicitDefEqProofs (disch := omega) [go_sem, -List.getD_eq_getElem?_getD, ite_yes, ht]; simpa using hc))
    · simp -dsimp -implicitDefEqProofs (disch := omega) [go_sem, -List.getD_eq_getElem?_getD, ite_yes, hlt]
      obtain rfl : k = l.length := by omega
      have := found_uniq hr (.no hf)
      exact fin_flat0 rfl (by rw [this])
theorem containsFuncNm_A (l : List Int) (p : Int → Bool) (g : Nat) (cap : Array Value) (hl : l.length ≤ 1048577) (c : Nat) (H : Heap) (t : Nat) (hS : Sl nmE H t l) (hc : L2 (WMP (sg H.length []) H.length) cap.toList cap.toList)
    (hp : ∀ k, k < l.length → AFunC Tryz.prog g (.int .i64 (l.getD k 0) :: cap.toList) H (.bool (p (l.getD k 0))) H) :
    AFunC Tryz.prog 44 [.slice (some ⟨t, 0, none⟩) l.length c, .func (.func g) #[] cap] H (.bool (decide (0 ≤ ixOf p l))) H := by
  refine AFunC.of_body Tryz.func44 (by kernel_rfl) rfl (by kernel_rfl) (by simp [Tryz.ntmps44]) ?_
  simp -dsimp -implicitDefEqProofs (disch := omega) [go_sem, -List.getD_eq_getElem?_getD, ite_yes]
  refine ACall.of (indexFuncNm_A l p g cap hl c H t hS hc hp) ?_
  simp -dsimp -implicitDefEqProofs (disch := omega) [go_sem, -List.getD_eq_getElem?_getD, ite_yes]
  exact fin_flat0 rfl rfl
theorem areCustomers1_A (x : Int) (H : Heap) : AFunC Tryz.prog 45 [.int .i64 x] H (.bool (notC x)) H := by
  refine AFunC.of_body Tryz.func45 (by kernel_rfl) rfl (by kernel_rfl) (by simp [Tryz.ntmps45]) ?_
  simp -dsimp -implicitDefEqProofs (disch := omega) [go_sem, -List.getD_eq_getElem?_getD, ite_yes]
  refine ACall.of (inside_A _ _ _ _) ?_
  simp -dsimp -implicitDefEqProofs (disch := omega) [go_sem, -List.getD_eq_getElem?_getD, ite_yes]
  exact fin_flat0 rfl rfl
theorem areCustomers_A (n : Int) (tp m cp : Nat) (cu : List Int) (hcu : cu.length ≤ 1048577) (d : Nat) (H : Heap) (u : Nat) (htp : tp < H.length) (hU : Sl nmE H u cu) :
    AFunC Tryz.prog 21 [netV n tp m cp, .slice (some ⟨u, 0, none⟩) cu.length d] H (.bool (custOk n cu)) H := by
  refine AFunC.of_body Tryz.func21 (by kernel_rfl) rfl (by kernel_rfl) (by simp [Tryz.ntmps21]) ?_
  have hu := hU.lt
  by_cases h1 : (cu.length : Int) = n
  · simp -dsimp -implicitDefEqProofs (disch := omega) [go_sem, -List.getD_eq_getElem?_getD, ite_yes, h1, htp, hu]
    refine ACall.of (containsFuncNm_A cu notC 45 #[] hcu d _ u hU.app trivial fun k hk => areCustomers1_A _ _) ?_
    simp -dsimp -implicitDefEqProofs (disch := omega) [go_sem, -List.getD_eq_getElem?_getD, ite_yes]
    exact fin_flat rfl (by rw [custOk, decide_eq_true h1, Bool.true_and])
  · simp -dsimp -implicitDefEqProofs (disch := omega) [go_sem, -List.getD_eq_getElem?_getD, ite_yes, h1, htp, hu]
    exact fin_flat rfl (by rw [custOk, decide_eq_false h1, Bool.false_and])
theorem l5Customers_A (n : Int) (tp m cp : Nat) (cu : List Int) (hcu : cu.length ≤ 1048577) (d : Nat) (H : Heap) (u : Nat) (htp : tp < H.length) (hU : Sl nmE H u cu) :
    AFunC Tryz.prog 24 [netV n tp m cp, .slice (some ⟨u, 0, none⟩) cu.length d] H (.bool (custOk n cu)) H := by
  refine AFunC.of_body Tryz.func24 (by kernel_rfl) rfl (by kernel_rfl) (by simp [Tryz.ntmps24]) ?_
  have hu := hU.lt
  have cs := fun k hk => hU.one (g := fun n => Value.int .i64 n) 0 k hk
  have hr := found_ix 0 notC cu
  simp -dsimp -implicitDefEqProofs (disch := omega) [go_sem, -List.getD_eq_getElem?_getD, ite_yes, htp, hu]
  refine ALoop.intro (ι := Nat) (fun k => k ≤ cu.length ∧ findTo 0 notC cu k) (fun k => [(1, .slice (some ⟨u, 0, none⟩) cu.length d), (2, .pointer (some ⟨H.length, 0, none⟩)), (5, .int .i64 k)]) (fun _ => H ++ [some ⟨[.int .i64 n, .slice (some ⟨tp, 0, none⟩) m cp], true, 26, 1⟩]) (fun k => cu.length - k) 0 ⟨by omega, fun i hi => by omega⟩ ?_ ?_
  · refine weakS_mk [some 0] rfl ?_ (by simp -dsimp -implicitDefEqProofs (disch := omega) [go_sem, -List.getD_eq_getElem?_getD, ite_yes, htp, hu])
    simp -dsimp -implicitDefEqProofs (disch := omega) [go_sem, -List.getD_eq_getElem?_getD, ite_yes]
    exact wl_net htp
  rintro k ⟨hk, hf⟩
  by_cases hlt : k < cu.length
  · have hltn : (k : Int) < (cu.length : Int) := by omega
    have c1 := cs k hlt
    simp -dsimp -implicitDefEqProofs (disch := omega) [go_sem, -List.getD_eq_getElem?_getD, ite_yes, hlt, hltn, hu, c1]
    refine ACall.of (l1In_A _ _ _ _) ?_
    cases h : inB (cu.getD k 0) 0 1000
    · simp -dsimp -implicitDefEqProofs (disch := omega) [go_sem, -List.getD_eq_getElem?_getD, ite_yes]
      have := found_uniq hr (.yes k hlt (by unfold notC; rw [h]; rfl) hf)
      exact fin_flat rfl (by rw [custOk, this, decide_eq_true (show (0 : Int) ≤ (k : Int) by omega)]; simp)
    · simp -dsimp -implicitDefEqProofs (disch := omega) [go_sem, -List.getD_eq_getElem?_getD, ite_yes]
      refine LoopEnd.of (k + 1) ⟨by omega, hf.next (by unfold notC; rw [h]; rfl)⟩ (by omega) (weakS_mk [some 0] rfl ?_ (by simp -dsimp -implicitDefEqProofs (disch := omega) [go_sem, -List.getD_eq_getElem?_getD, ite_yes, htp, hu]))
      simp -dsimp -implicitDefEqProofs (disch := omega) [go_sem, -List.getD_eq_getElem?_getD, ite_yes]
      exact wl_net htp
  · have hltn : ¬ (k : Int) < (cu.length : Int) := by omega
    obtain rfl : k = cu.length := by omega
    have := found_uniq hr (.no hf)
    simp -dsimp -implicitDefEqProofs (disch := omega) [go_sem, -List.getD_eq_getElem?_getD, ite_yes, hltn, htp, hu]
    exact fin_flat rfl (by rw [custOk, this]; simp)
def harmTo (R : List Bool) (cu : List Int) : Nat → Int
  | 0 => 0
  | k + 1 => if R.getD (k + 1) false then harmTo R cu k else harmTo R cu k + cu.getD k 0
theorem harmTo_rng {R : List Bool} {cu : List Int} (h : ∀ i, 0 ≤ cu.getD i 0 ∧ cu.getD i 0 ≤ 1000) : ∀ k : Nat, 0 ≤ harmTo R cu k ∧ harmTo R cu k ≤ 1000 * (k : Int)
  | 0 => by simp [harmTo]
  | k + 1 => by
    have := harmTo_rng (R := R) h k
    have := h k
    rw [harmTo]
    split <;> omega
/-- the sum of the customers at the first k of some nodes -/
def sumD (D cu : List Int) : Nat → Int
  | 0 => 0
  | k + 1 => sumD D cu k + cu.getD (D.getD k 0 - 1).toNat 0
theorem sumD_left (D E cu : List Int) : ∀ k, k ≤ D.length → sumD (D ++ E) cu k = sumD D cu k
  | 0, _ => rfl
  | k + 1, hk => by
    have e : (D ++ E).getD k 0 = D.getD k 0 := by
      rw [List.getD_eq_getElem?_getD, List.getElem?_append_left (by omega), ← List.getD_eq_getElem?_getD]
    rw [sumD, sumD, sumD_left D E cu k (by omega), e]
theorem sumD_dry (R : List Bool) (cu : List Int) : ∀ k, sumD (dryN R k) cu (dryN R k).length = harmTo R cu k
  | 0 => rfl
  | k + 1 => by
    rw [dryN, harmTo]
    split
    · exact sumD_dry R cu k
    · rw [List.length_append, List.length_singleton, sumD, sumD_left _ _ _ _ (Nat.le_refl _), sumD_dry R cu k]
      have : (dryN R k ++ [((k + 1 : Nat) : Int)]).getD (dryN R k).length 0 = ((k + 1 : Nat) : Int) := by
        rw [List.getD_eq_getElem?_getD, List.getElem?_append_right (Nat.le_refl _), Nat.sub_self]; rfl
      rw [this]
      congr 2
      omega
theorem sumD_rng {D cu : List Int} (h : ∀ i, 0 ≤ cu.getD i 0 ∧ cu.getD i 0 ≤ 1000) : ∀ k : Nat, 0 ≤ sumD D cu k ∧ sumD D cu k ≤ 1000 * (k : Int)
  | 0 => by simp [sumD]
  | k + 1 => by
    have := sumD_rng (D := D) h k
    have := h (D.getD k 0 - 1).toNat
    rw [sumD]
    omega
def stepN (n : Int) (ps : List Pp) (l : List Vl) (src : Int) (ids cu : List Int) : Int := harmTo (wetR ps (opL l ids) src) cu n.toNat
def waitTo (n : Int) (ps : List Pp) (l : List Vl) (src : Int) (a cu : List Int) : Nat → Int
  | 0 => 0
  | k + 1 => waitTo n ps l src a cu k + stepN n ps l src (a.take k) cu
theorem stepN_rng {n : Int} (hn : 1 ≤ n ∧ n ≤ 8) {ps : List Pp} {l : List Vl} {src : Int} {ids cu : List Int} (h : ∀ i, 0 ≤ cu.getD i 0 ∧ cu.getD i 0 ≤ 1000) : 0 ≤ stepN n ps l src ids cu ∧ stepN n ps l src ids cu ≤ 8000 := by
  have := harmTo_rng (R := wetR ps (opL l ids) src) h n.toNat
  unfold stepN
  omega
theorem waitTo_rng {n : Int} (hn : 1 ≤ n ∧ n ≤ 8) {ps : List Pp} {l : List Vl} {src : Int} {a cu : List Int} (h : ∀ i, 0 ≤ cu.getD i 0 ∧ cu.getD i 0 ≤ 1000) : ∀ k : Nat, 0 ≤ waitTo n ps l src a cu k ∧ waitTo n ps l src a cu k ≤ 8000 * (k : Int)
  | 0 => by simp [waitTo]
  | k + 1 => by
    have := waitTo_rng hn (ps := ps) (l := l) (src := src) (a := a) h k
    have := stepN_rng hn (ps := ps) (l := l) (src := src) (ids := a.take k) h
    rw [waitTo]
    omega
theorem l18Step_A (n : Int) (ps : List Pp) (hN : NetAt n ps) (cp : Nat) (l : List Vl) (hl : l.length ≤ 1048577) (c : Nat) (src : Int) (hsrc : 1 ≤ src ∧ src ≤ n) (ids : List Int) (hi : ids.length ≤ 1048577) (d o : Nat) (cu : List Int) (hcu : custOk n cu = true) (d2 : Nat) (H : Heap) (tp t u w : Nat) (hP : Sl ppE H tp ps) (hS : Sl vlE H t l) (hU : IdS H u o ids) (hC : Sl nmE H w cu) :
    AFunC Tryz.prog 25 [netV n tp ps.length cp, .slice (some ⟨t, 0, none⟩) l.length c, .int .i64 src, .slice (some ⟨u, o, none⟩) ids.length d, .slice (some ⟨w, 0, none⟩) cu.length d2] H (.int .i64 (stepN n ps l src ids cu)) H := by
  refine AFunC.of_body Tryz.func25 (by kernel_rfl) rfl (by kernel_rfl) (by simp [Tryz.ntmps25]) ?_
  have htp := hP.lt
  have ht := hS.lt
  have hu := hU.lt
  have hw := hC.lt
  have hn := hN.f_n
  obtain ⟨hcl, hcr⟩ := custOk_at hcu
  have cc := fun k hk => hC.one (g := fun n => Value.int .i64 n) 0 k hk
  have hsum : stepN n ps l src ids cu = sumD (dryO n ps l src ids) cu (dryO n ps l src ids).length := (sumD_dry _ cu n.toNat).symm
  have hdl := dryO_length n ps l src ids
  have hmem : ∀ i, i < (dryO n ps l src ids).length → ∃ j : Nat, (dryO n ps l src ids).getD i 0 = (j : Int) ∧ 1 ≤ j ∧ j ≤ n.toNat := by
    intro i hi
    have hm : (dryO n ps l src ids).getD i 0 ∈ dryO n ps l src ids := by
      rw [List.getD_eq_getElem?_getD, List.getElem?_eq_getElem hi]; exact List.getElem_mem hi
    have hpos : ∀ k, ∀ x ∈ dryN (wetR ps (opL l ids) src) k, 1 ≤ x ∧ x ≤ (k : Int) := by
      intro k
      induction k with
      | zero => intro x hx; exact absurd hx (by simp [dryN])
      | succ k ih =>
        intro x hx
        rw [dryN] at hx
        split at hx
        · have := ih x hx; omega
        · rcases List.mem_append.1 hx with hx | hx
          · have := ih x hx; omega
          · have := List.mem_singleton.1 hx; omega
    have := hpos n.toNat _ hm
    exact ⟨((dryO n ps l src ids).getD i 0).toNat, by omega, by omega, by omega⟩
  simp -dsimp -implicitDefEqProofs (disch := omega) [go_sem, -List.getD_eq_getElem?_getD, ite_yes, htp, ht, hu, hw]
  refine ACall.of (l18Dry_A n ps hN cp l hl c src hsrc ids hi d o _ tp t u hP.app hS.app hU.app) ?_
  generalize dryO n ps l src ids = D at *
  have hfd : (D.flatMap nmE).length = D.length := by rw [nmE_length]; omega
  simp -dsimp -implicitDefEqProofs (disch := omega) [go_sem, -List.getD_eq_getElem?_getD, ite_yes, htp, ht, hu, hw]
  refine ALoop.intro (ι := Nat) (fun k => k ≤ D.length) (fun k => [(4, .slice (some ⟨w, 0, none⟩) cu.length d2), (11, .slice (some ⟨H.length, 0, none⟩) D.length 0), (12, .int .i64 (sumD D cu k)), (13, .int .i64 k)]) (fun _ => H ++ [some ⟨D.flatMap nmE, true, 3, 1⟩]) (fun k => D.length - k) 0 (by omega) ?_ ?_
  · refine weakS_mk [some 1] rfl ?_ (by simp -dsimp -implicitDefEqProofs (disch := omega) [go_sem, -List.getD_eq_getElem?_getD, ite_yes, hw, sumD])
    simp -dsimp -implicitDefEqProofs (disch := omega) [go_sem, -List.getD_eq_getElem?_getD, ite_yes]
    exact .inl ⟨rfl, nmE_flat _⟩
  intro k hk
  by_cases hlt : k < D.length
  · obtain ⟨j, hj, hj1, hj2⟩ := hmem k hlt
    have hltn : (k : Int) < (D.length : Int) := by omega
    have c1 := nm_cell1 D hlt
    have e : sumD D cu (k + 1) = sumD D cu k + cu.getD (D.getD k 0 - 1).toNat 0 := rfl
    rw [hj] at c1 e
    obtain ⟨i, rfl⟩ : ∃ i, j = i + 1 := ⟨j - 1, by omega⟩
    have hji : (((i + 1 : Nat) : Int) - 1).toNat = i := by omega
    rw [hji] at e
    have hil : i < cu.length := by omega
    have hil2 : (i : Int) < (cu.length : Int) := by omega
    have c2 := cc i hil
    have b1 := sumD_rng (D := D) hcr k
    have b2 := hcr i
    simp -dsimp -implicitDefEqProofs (disch := omega) [go_sem, -List.getD_eq_getElem?_getD, ite_yes, hlt, hltn, hfd, c1, hw, hji, hil, hil2, c2]
    refine LoopEnd.of (k + 1) (by omega) (by omega) (weakS_mk [some 0] rfl ?_ (by simp -dsimp -implicitDefEqProofs (disch := omega) [go_sem, -List.getD_eq_getElem?_getD, ite_yes, hw, e]))
    simp -dsimp -implicitDefEqProofs (disch := omega) [go_sem, -List.getD_eq_getElem?_getD, ite_yes]
    exact .inl ⟨rfl, nmE_flat _⟩
  · have hltn : ¬ (k : Int) < (D.length : Int) := by omega
    obtain rfl : k = D.length := by omega
    simp -dsimp -implicitDefEqProofs (disch := omega) [go_sem, -List.getD_eq_getElem?_getD, ite_yes, hltn]
    exact fin_flat rfl (by rw [hsum])
theorem indexNil_A (n : Int) (H : Heap) : AFunC Tryz.prog 80 [.slice none 0 0, .int .i64 n] H (.int .i64 (-1)) H := by
  refine AFunC.of_body Tryz.func80 (by kernel_rfl) rfl (by kernel_rfl) (by simp [Tryz.ntmps80]) ?_
  simp -dsimp -implicitDefEqProofs (disch := omega) [go_sem, -List.getD_eq_getElem?_getD, ite_yes]
  refine ALoop.intro (ι := Unit) (fun _ => True) (fun _ => [(0, .slice none 0 0), (1, .int .i64 n), (7, .int .i64 0), (8, .int .i64 0)]) (fun _ => H) (fun _ => 0) () trivial ?_ ?_
  · exact weakS_same (by simp -dsimp -implicitDefEqProofs (disch := omega) [go_sem, -List.getD_eq_getElem?_getD, ite_yes])
  · intro _ _
    simp -dsimp -implicitDefEqProofs (disch := omega) [go_sem, -List.getD_eq_getElem?_getD, ite_yes]
    exact fin_flat0 rfl rfl
theorem containsNil_A (n : Int) (H : Heap) : AFunC Tryz.prog 56 [.slice none 0 0, .int .i64 n] H (.bool false) H := by
  refine AFunC.of_body Tryz.func56 (by kernel_rfl) rfl (by kernel_rfl) (by simp [Tryz.ntmps56]) ?_
  simp -dsimp -implicitDefEqProofs (disch := omega) [go_sem, -List.getD_eq_getElem?_getD, ite_yes]
  refine ACall.of (indexNil_A n _) ?_
  simp -dsimp -implicitDefEqProofs (disch := omega) [go_sem, -List.getD_eq_getElem?_getD, ite_yes]
  exact fin_flat0 rfl rfl
theorem shutTooNil_A (l : List Vl) (hl : l.length ≤ 1048577) (c : Nat) (H : Heap) (t : Nat) (hS : Sl vlE H t l) :
    AFunC Tryz.prog 72 [.slice (some ⟨t, 0, none⟩) l.length c, .slice none 0 0] H (.slice (some ⟨H.length, 0, none⟩) l.length 0) (H ++ [some ⟨l.flatMap vlE, true, 71, 4⟩]) := by
  refine AFunC.of_body Tryz.func72 (by kernel_rfl) rfl (by kernel_rfl) (by simp [Tryz.ntmps72]) ?_
  have ht := hS.lt
  have al := hS.all (s := 4) (fun _ => rfl)
  simp -dsimp -implicitDefEqProofs (disch := omega) [go_sem, -List.getD_eq_getElem?_getD, ite_yes, ht, al]
  refine ⟨by omega, ?_⟩
  refine ALoop.intro (ι := Nat) (fun k => k ≤ l.length) (fun k => [(1, .slice none 0 0), (5, .slice (some ⟨H.length, 0, none⟩) l.length 0), (11, .int .i64 l.length), (12, .int .i64 k)])
    (fun k => H ++ [some ⟨l.flatMap vlE, true, 71, 4⟩]) (fun k => l.length - k) 0 (by omega) ?_ ?_
  · refine weakS_mk [some 1] rfl ?_ (by simp -dsimp -implicitDefEqProofs (disch := omega) [go_sem, -List.getD_eq_getElem?_getD, ite_yes, ht])
    simp -dsimp -implicitDefEqProofs (disch := omega) [go_sem, -List.getD_eq_getElem?_getD, ite_yes]
    exact .inl ⟨rfl, vlE_flat _⟩
  intro k hk
  by_cases hlt : k < l.length
  · have hS' : Sl vlE (H ++ [some ⟨l.flatMap vlE, true, 71, 4⟩]) H.length l := Sl.of rfl
    have c0 := hS'.cell (s := 4) (fun _ => rfl) vl0 k 0 (by omega) (by omega)
    have c3 := hS'.cell (s := 4) (fun _ => rfl) vl0 k 3 (by omega) (by omega)
    have sc := set_cell (f := vlE) (s := 4) (l := l) (i := k) (fun _ => rfl) (l.getD k vl0) vl0 (by omega) (j := 3) (by omega) (v := .bool (l.getD k vl0).2.2.2) rfl
    have hs : l.set k (l.getD k vl0) = l := by
      refine List.ext_getElem (by simp) fun i h1 h2 => ?_
      rw [List.getElem_set]
      split
      · rename_i h; subst h; simp [List.getD_eq_getElem?_getD, h2]
      · rfl
    rw [hs] at sc
    simp only [vlE, Nat.add_zero] at c0 c3
    have hml : (l.flatMap vlE).length = l.length * 4 := vlE_length l
    have hk4 : k * 4 + 3 < l.length * 4 := by omega
    cases hb : (l.getD k vl0).2.2.2 <;> rw [hb] at c3 sc
    · simp -dsimp -implicitDefEqProofs (disch := omega) [go_sem, -List.getD_eq_getElem?_getD, ite_yes, hlt, ht, c0, c3, hml]
      refine ACall.of (containsNil_A _ _) ?_
      simp -dsimp -implicitDefEqProofs (disch := omega) [go_sem, -List.getD_eq_getElem?_getD, ite_yes, hlt, ht, hml]
      refine LoopEnd.of (k + 1) (by omega) (by omega) (weakS_mk [some 0] rfl ?_ (by simp -dsimp -implicitDefEqProofs (disch := omega) [go_sem, -List.getD_eq_getElem?_getD, ite_yes, ht]))
      simp -dsimp -implicitDefEqProofs (disch := omega) [go_sem, -List.getD_eq_getElem?_getD, ite_yes]
      exact .inl ⟨sc.symm, by rw [sc]; exact vlE_flat _⟩
    · simp -dsimp -implicitDefEqProofs (disch := omega) [go_sem, -List.getD_eq_getElem?_getD, ite_yes, hlt, ht, c0, c3, hml]
      refine LoopEnd.of (k + 1) (by omega) (by omega) (weakS_mk [some 0] rfl ?_ (by simp -dsimp -implicitDefEqProofs (disch := omega) [go_sem, -List.getD_eq_getElem?_getD, ite_yes, ht]))
      simp -dsimp -implicitDefEqProofs (disch := omega) [go_sem, -List.getD_eq_getElem?_getD, ite_yes]
      exact .inl ⟨sc.symm, by rw [sc]; exact vlE_flat _⟩
  · obtain rfl : k = l.length := by omega
    simp -dsimp -implicitDefEqProofs (disch := omega) [go_sem, -List.getD_eq_getElem?_getD, ite_yes, hlt]
    refine fin_list [some 0] rfl ?_ (by simp -dsimp -implicitDefEqProofs (disch := omega) [go_sem, -List.getD_eq_getElem?_getD, ite_yes])
    simp -dsimp -implicitDefEqProofs (disch := omega) [go_sem, -List.getD_eq_getElem?_getD, ite_yes]
    exact .inl ⟨rfl, vlE_flat _⟩
theorem harmOf_A (n : Int) (ps : List Pp) (cp : Nat) (l : List Vl) (hg : goodV n ps l = true) (c : Nat) (src : Int) (hsrc : 1 ≤ src ∧ src ≤ n) (cu : List Int) (hcu : custOk n cu = true) (d : Nat) (H : Heap) (tp t w : Nat) (hP : Sl ppE H tp ps) (hS : Sl vlE H t l) (hC : Sl nmE H w cu) :
    AFunC Tryz.prog 47 [netV n tp ps.length cp, .slice (some ⟨t, 0, none⟩) l.length c, .int .i64 src, .slice none 0 0, .slice (some ⟨w, 0, none⟩) cu.length d] H (.int .i64 (harmTo (wetR ps l src) cu n.toNat)) H := by
  refine AFunC.of_body Tryz.func47 (by kernel_rfl) rfl (by kernel_rfl) (by simp [Tryz.ntmps47]) ?_
  have htp := hP.lt
  have ht := hS.lt
  have hw := hC.lt
  obtain ⟨hN, hl⟩ := goodV_net hg
  have hpl := hN.f_len
  have hn := hN.f_n
  obtain ⟨hcl, hcr⟩ := custOk_at hcu
  have cc := fun k hk => hC.one (g := fun n => Value.int .i64 n) 0 k hk
  have A := watered_A n ps cp l hg 0 src hsrc
  have hRl := wetR_length hN l src
  generalize wetR ps l src = R at *
  simp -dsimp -implicitDefEqProofs (disch := omega) [go_sem, -List.getD_eq_getElem?_getD, ite_yes, htp, ht, hw]
  refine ADraw.mid [(4, .slice (some ⟨w, 0, none⟩) cu.length d), (11, .pointer (some ⟨H.length, 0, none⟩)), (12, .int .i64 0)] (H ++ [some ⟨R.map .bool, true, 111, 1⟩]) ?_ ?_
  · skip
    refine ADraw.any H (by kernel_rfl) (by first | exact SubH.refl | exact SubH.app | exact SubH.both (by simp [subL])) ?_
    refine AAny.takes (fuel := 5) (by kernel_rfl) (by kernel_rfl) [1, 2, 4] (by kernel_rfl) (by kernel_rfl) ?_
    simp -dsimp -implicitDefEqProofs (disch := omega) [go_sem, -List.getD_eq_getElem?_getD, ite_yes, htp, ht, hw]
    refine AAny.two 4 0 3 (by kernel_rfl) (by kernel_rfl) (by kernel_rfl) ?_ ?_
    · simp -dsimp -implicitDefEqProofs (disch := omega) [go_sem, -List.getD_eq_getElem?_getD, ite_yes, htp, ht, hw]
      refine AAt.of1 ?_
      refine AAny.one1 3 3 ?_
      simp -dsimp -implicitDefEqProofs (disch := omega) [go_sem, -List.getD_eq_getElem?_getD, ite_yes, htp, ht, hw]
      refine ACall.of (shutTooNil_A l (by omega) c _ t hS.app) ?_
      simp -dsimp -implicitDefEqProofs (disch := omega) [go_sem, -List.getD_eq_getElem?_getD, ite_yes, htp, ht, hw]
      refine AAt.of1 ?_
      refine AAny.one1 2 5 ?_
      simp -dsimp -implicitDefEqProofs (disch := omega) [go_sem, -List.getD_eq_getElem?_getD, ite_yes, htp, ht, hw]
      refine ACall.of (A _ tp (H.length + 1) hP.app (Sl.of1 rfl)) ?_
      simp -dsimp -implicitDefEqProofs (disch := omega) [go_sem, -List.getD_eq_getElem?_getD, ite_yes, htp, ht, hw]
      refine AAt.of1 ?_
      refine AAny.takes (fuel := 0) (by kernel_rfl) (by kernel_rfl) [6, 7] (by kernel_rfl) (by kernel_rfl) ?_
      simp -dsimp -implicitDefEqProofs (disch := omega) [go_sem, -List.getD_eq_getElem?_getD, ite_yes, htp, ht, hw]
      refine AAny.done (by kernel_rfl) ?_
      simp -dsimp -implicitDefEqProofs (disch := omega) [go_sem, -List.getD_eq_getElem?_getD, ite_yes, htp, ht, hw]
      exact ⟨weakS_mk [some 2] rfl (by simp -dsimp -implicitDefEqProofs (disch := omega) [go_sem, -List.getD_eq_getElem?_getD, ite_yes]; exact .inl ⟨rfl, bl_flat _⟩) (by simp -dsimp -implicitDefEqProofs (disch := omega) [go_sem, -List.getD_eq_getElem?_getD, ite_yes, hw])⟩
    · simp -dsimp -implicitDefEqProofs (disch := omega) [go_sem, -List.getD_eq_getElem?_getD, ite_yes, htp, ht, hw]
      refine ACall.of (shutTooNil_A l (by omega) c _ t hS.app) ?_
      simp -dsimp -implicitDefEqProofs (disch := omega) [go_sem, -List.getD_eq_getElem?_getD, ite_yes, htp, ht, hw]
      refine AAt.of1 ?_
      refine AAny.one1 3 0 ?_
      simp -dsimp -implicitDefEqProofs (disch := omega) [go_sem, -List.getD_eq_getElem?_getD, ite_yes, htp, ht, hw]
      refine AAt.of1 ?_
      refine AAny.one1 2 5 ?_
      simp -dsimp -implicitDefEqProofs (disch := omega) [go_sem, -List.getD_eq_getElem?_getD, ite_yes, htp, ht, hw]
      refine ACall.of (A _ tp (H.length + 1) hP.app (Sl.of1 rfl)) ?_
      simp -dsimp -implicitDefEqProofs (disch := omega) [go_sem, -List.getD_eq_getElem?_getD, ite_yes, htp, ht, hw]
      refine AAt.of1 ?_
      refine AAny.takes (fuel := 0) (by kernel_rfl) (by kernel_rfl) [6, 7] (by kernel_rfl) (by kernel_rfl) ?_
      simp -dsimp -implicitDefEqProofs (disch := omega) [go_sem, -List.getD_eq_getElem?_getD, ite_yes, htp, ht, hw]
      refine AAny.done (by kernel_rfl) ?_
      simp -dsimp -implicitDefEqProofs (disch := omega) [go_sem, -List.getD_eq_getElem?_getD, ite_yes, htp, ht, hw]
      exact ⟨weakS_mk [some 2] rfl (by simp -dsimp -implicitDefEqProofs (disch := omega) [go_sem, -List.getD_eq_getElem?_getD, ite_yes]; exact .inl ⟨rfl, bl_flat _⟩) (by simp -dsimp -implicitDefEqProofs (disch := omega) [go_sem, -List.getD_eq_getElem?_getD, ite_yes, hw])⟩
  simp -dsimp -implicitDefEqProofs (disch := omega) [go_sem, -List.getD_eq_getElem?_getD, ite_yes, hw]
  refine ALoop.intro (ι := Nat) (fun k => k ≤ cu.length) (fun k => [(11, .pointer (some ⟨H.length, 0, none⟩)), (12, .int .i64 (harmTo R cu k)), (21, .slice (some ⟨w, 0, none⟩) cu.length d), (22, .int .i64 cu.length), (23, .int .i64 k)]) (fun _ => H ++ [some ⟨R.map .bool, true, 111, 1⟩]) (fun k => cu.length - k) 0 (by omega) ?_ ?_
  · refine weakS_mk [some 0] rfl ?_ (by simp -dsimp -implicitDefEqProofs (disch := omega) [go_sem, -List.getD_eq_getElem?_getD, ite_yes, hw, harmTo])
    simp -dsimp -implicitDefEqProofs (disch := omega) [go_sem, -List.getD_eq_getElem?_getD, ite_yes]
    exact .inl ⟨rfl, bl_flat _⟩
  intro k hk
  by_cases hlt : k < cu.length
  · have c1 := cc k hlt
    have hk1 : ((k : Int) + 1).toNat = k + 1 := by omega
    have hk19 : k + 1 < 19 := by omega
    have hkn : (k : Int) + 1 < 19 := by omega
    have c2 := bl_cell R (q := k + 1) (by omega)
    have e : harmTo R cu (k + 1) = if R.getD (k + 1) false then harmTo R cu k else harmTo R cu k + cu.getD k 0 := rfl
    have b1 := harmTo_rng (R := R) hcr k
    have b2 := hcr k
    have hmap : (R.map Value.bool).length = 19 := by rw [List.length_map, hRl]
    cases hh : R.getD (k + 1) false <;> rw [hh] at c2 e
    · simp only [Bool.false_eq_true, if_false] at e
      simp -dsimp -implicitDefEqProofs (disch := omega) [go_sem, -List.getD_eq_getElem?_getD, ite_yes, hlt, hw, c1, hk1, hk19, hkn, hmap, hRl, c2]
      refine LoopEnd.of (k + 1) (by omega) (by omega) (weakS_mk [some 0] rfl ?_ (by simp -dsimp -implicitDefEqProofs (disch := omega) [go_sem, -List.getD_eq_getElem?_getD, ite_yes, hw, e]))
      simp -dsimp -implicitDefEqProofs (disch := omega) [go_sem, -List.getD_eq_getElem?_getD, ite_yes]
      exact .inl ⟨rfl, bl_flat _⟩
    · rw [if_pos rfl] at e
      simp -dsimp -implicitDefEqProofs (disch := omega) [go_sem, -List.getD_eq_getElem?_getD, ite_yes, hlt, hw, c1, hk1, hk19, hkn, hmap, hRl, c2]
      refine LoopEnd.of (k + 1) (by omega) (by omega) (weakS_mk [some 0] rfl ?_ (by simp -dsimp -implicitDefEqProofs (disch := omega) [go_sem, -List.getD_eq_getElem?_getD, ite_yes, hw, e]))
      simp -dsimp -implicitDefEqProofs (disch := omega) [go_sem, -List.getD_eq_getElem?_getD, ite_yes]
      exact .inl ⟨rfl, bl_flat _⟩
  · obtain rfl : k = cu.length := by omega
    have : n.toNat = cu.length := by omega
    simp -dsimp -implicitDefEqProofs (disch := omega) [go_sem, -List.getD_eq_getElem?_getD, ite_yes, hlt]
    exact fin_flat rfl (by rw [this])
end Go.Proofs.YtncblopbcnkinaaGreat
/- WaitingOf: both sides, and the law. -/
namespace Go.Proofs.YtncblopbcnkinaaGreat
open Go.Am
set_option linter.unusedVariables false
set_option linter.unusedSimpArgs false
set_option maxRecDepth 100000
set_option maxHeartbeats 4000000

theorem isOrd_at {n : Int} {ps : List Pp} {l : List Vl} {src : Int} {a : List Int} (ho : isOrd n ps l src a = true) : askR n ps l src = true ∧ a.length = (shutL l).length := by
  unfold isOrd at ho
  rw [Bool.and_eq_true] at ho
  exact ⟨ho.1, (ordB_perm ho.2).length_eq⟩
/-- what WaitingOf hands out -/
def waitV (b : Bool) (w : Int) : Value := if b then .tuple #[.int .i64 w, .bool true] else .tuple #[.int .i64 0, .bool false]
def waitN (n : Int) (ps : List Pp) (l : List Vl) (src : Int) (a cu : List Int) : Int := waitTo n ps l src a cu a.length
theorem waitingOf_A (n : Int) (ps : List Pp) (cp : Nat) (l : List Vl) (c : Nat) (src : Int) (a : List Int) (hq : askR n ps l src = true) (ha : a.length ≤ 6) (d : Nat) (cu : List Int) (hcu : custOk n cu = true) (d2 : Nat) (H : Heap) (tp t u w : Nat) (hP : Sl ppE H tp ps) (hS : Sl vlE H t l) (hU : Sl nmE H u a) (hC : Sl nmE H w cu) :
    AFunC Tryz.prog 22 [netV n tp ps.length cp, .slice (some ⟨t, 0, none⟩) l.length c, .int .i64 src, .slice (some ⟨u, 0, none⟩) a.length d, .slice (some ⟨w, 0, none⟩) cu.length d2] H (.int .i64 (waitN n ps l src a cu)) H := by
  refine AFunC.of_body Tryz.func22 (by kernel_rfl) rfl (by kernel_rfl) (by simp [Tryz.ntmps22]) ?_
  have htp := hP.lt
  have ht := hS.lt
  have hu := hU.lt
  have hw := hC.lt
  obtain ⟨hg, hN, hl10, hsrc, hs6⟩ := askR_at hq
  have hn := hN.f_n
  have hpl := hN.f_len
  obtain ⟨hcl, hcr⟩ := custOk_at hcu
  simp -dsimp -implicitDefEqProofs (disch := omega) [go_sem, -List.getD_eq_getElem?_getD, ite_yes, htp, ht, hu, hw]
  refine ALoop.intro (ι := Nat) (fun k => k ≤ a.length) (fun k => [(1, .slice (some ⟨t, 0, none⟩) l.length c), (2, .int .i64 src), (3, .slice (some ⟨u, 0, none⟩) a.length d), (4, .slice (some ⟨w, 0, none⟩) cu.length d2), (5, .pointer (some ⟨H.length, 0, none⟩)), (11, .int .i64 (waitTo n ps l src a cu k)), (14, .int .i64 a.length), (15, .int .i64 k)]) (fun _ => H ++ [some ⟨[.int .i64 n, .slice (some ⟨tp, 0, none⟩) ps.length cp], true, 26, 1⟩]) (fun k => a.length - k) 0 (by omega) ?_ ?_
  · refine weakS_mk [some 0] rfl ?_ (by simp -dsimp -implicitDefEqProofs (disch := omega) [go_sem, -List.getD_eq_getElem?_getD, ite_yes, htp, ht, hu, hw, waitTo])
    simp -dsimp -implicitDefEqProofs (disch := omega) [go_sem, -List.getD_eq_getElem?_getD, ite_yes]
    exact wl_net htp
  intro k hk
  by_cases hlt : k < a.length
  · have e : waitTo n ps l src a cu (k + 1) = waitTo n ps l src a cu k + stepN n ps l src (a.take k) cu := rfl
    have b1 := waitTo_rng hn (ps := ps) (l := l) (src := src) (a := a) hcr k
    have b2 := stepN_rng hn (ps := ps) (l := l) (src := src) (ids := a.take k) hcr
    have A := fun (G : Heap) (z : Nat) (h1 : Sl ppE G tp ps) (h2 : Sl vlE G z (opL l (a.take k))) (h3 : Sl nmE G w cu) => harmOf_A n ps cp (opL l (a.take k)) (goodV_opL hg _) 0 src hsrc cu hcu d2 G tp z w h1 h2 h3
    simp only [opL_length] at A
    rw [show harmTo (wetR ps (opL l (a.take k)) src) cu n.toNat = stepN n ps l src (a.take k) cu from rfl] at A
    generalize stepN n ps l src (a.take k) cu = s at *
    generalize hW : waitTo n ps l src a cu k = W at *
    simp -dsimp -implicitDefEqProofs (disch := omega) [go_sem, -List.getD_eq_getElem?_getD, ite_yes, hlt, htp, ht, hu, hw]
    refine ADraw.any H (by kernel_rfl) (by first | exact SubH.refl | exact SubH.app | exact SubH.both (by simp [subL])) ?_
    refine AAny.takes (fuel := 5) (by kernel_rfl) (by kernel_rfl) [0, 2, 3, 4, 5, 7, 8] (by kernel_rfl) (by kernel_rfl) ?_
    simp -dsimp -implicitDefEqProofs (disch := omega) [go_sem, -List.getD_eq_getElem?_getD, ite_yes, htp, ht, hu, hw, hk]
    refine AAny.two 4 1 6 (by kernel_rfl) (by kernel_rfl) (by kernel_rfl) ?_ ?_
    · simp -dsimp -implicitDefEqProofs (disch := omega) [go_sem, -List.getD_eq_getElem?_getD, ite_yes, htp, ht, hu, hw, hk]
      refine AAt.of1 ?_
      refine AAny.one1 3 6 ?_
      simp -dsimp -implicitDefEqProofs (disch := omega) [go_sem, -List.getD_eq_getElem?_getD, ite_yes, htp, ht, hu, hw, hk]
      refine ACall.of (openedT_A l (by omega) c a k hk (by omega) k _ t u hS.app hU.app) ?_
      simp -dsimp -implicitDefEqProofs (disch := omega) [go_sem, -List.getD_eq_getElem?_getD, ite_yes, htp, ht, hu, hw, hk]
      refine AAt.of1 ?_
      refine AAny.one1 2 9 ?_
      simp -dsimp -implicitDefEqProofs (disch := omega) [go_sem, -List.getD_eq_getElem?_getD, ite_yes, htp, ht, hu, hw, hk]
      refine ACall.of (A _ (H.length + 1) hP.app (Sl.of1 rfl) hC.app) ?_
      simp -dsimp -implicitDefEqProofs (disch := omega) [go_sem, -List.getD_eq_getElem?_getD, ite_yes, htp, ht, hu, hw, hk]
      refine AAt.of1 ?_
      refine AAny.takes (fuel := 0) (by kernel_rfl) (by kernel_rfl) [10, 11] (by kernel_rfl) (by kernel_rfl) ?_
      simp -dsimp -implicitDefEqProofs (disch := omega) [go_sem, -List.getD_eq_getElem?_getD, ite_yes, htp, ht, hu, hw, hk]
      refine AAny.done (by kernel_rfl) ?_
      simp -dsimp -implicitDefEqProofs (disch := omega) [go_sem, -List.getD_eq_getElem?_getD, ite_yes, htp, ht, hu, hw, hk]
      refine LoopEnd.of (k + 1) (by omega) (by omega) (weakS_mk [some 0] rfl ?_ (by simp -dsimp -implicitDefEqProofs (disch := omega) [go_sem, -List.getD_eq_getElem?_getD, ite_yes, htp, ht, hu, hw, e]))
      simp -dsimp -implicitDefEqProofs (disch := omega) [go_sem, -List.getD_eq_getElem?_getD, ite_yes]
      exact wl_net htp
    · simp -dsimp -implicitDefEqProofs (disch := omega) [go_sem, -List.getD_eq_getElem?_getD, ite_yes, htp, ht, hu, hw, hk]
      refine ACall.of (openedT_A l (by omega) c a k hk (by omega) k _ t u hS.app hU.app) ?_
      simp -dsimp -implicitDefEqProofs (disch := omega) [go_sem, -List.getD_eq_getElem?_getD, ite_yes, htp, ht, hu, hw, hk]
      refine AAt.of1 ?_
      refine AAny.one1 3 1 ?_
      simp -dsimp -implicitDefEqProofs (disch := omega) [go_sem, -List.getD_eq_getElem?_getD, ite_yes, htp, ht, hu, hw, hk]
      refine AAt.of1 ?_
      refine AAny.one1 2 9 ?_
      simp -dsimp -implicitDefEqProofs (disch := omega) [go_sem, -List.getD_eq_getElem?_getD, ite_yes, htp, ht, hu, hw, hk]
      refine ACall.of (A _ (H.length + 1) hP.app (Sl.of1 rfl) hC.app) ?_
      simp -dsimp -implicitDefEqProofs (disch := omega) [go_sem, -List.getD_eq_getElem?_getD, ite_yes, htp, ht, hu, hw, hk]
      refine AAt.of1 ?_
      refine AAny.takes (fuel := 0) (by kernel_rfl) (by kernel_rfl) [10, 11] (by kernel_rfl) (by kernel_rfl) ?_
      simp -dsimp -implicitDefEqProofs (disch := omega) [go_sem, -List.getD_eq_getElem?_getD, ite_yes, htp, ht, hu, hw, hk]
      refine AAny.done (by kernel_rfl) ?_
      simp -dsimp -implicitDefEqProofs (disch := omega) [go_sem, -List.getD_eq_getElem?_getD, ite_yes, htp, ht, hu, hw, hk]
      refine LoopEnd.of (k + 1) (by omega) (by omega) (weakS_mk [some 0] rfl ?_ (by simp -dsimp -implicitDefEqProofs (disch := omega) [go_sem, -List.getD_eq_getElem?_getD, ite_yes, htp, ht, hu, hw, e]))
      simp -dsimp -implicitDefEqProofs (disch := omega) [go_sem, -List.getD_eq_getElem?_getD, ite_yes]
      exact wl_net htp
  · obtain rfl : k = a.length := by omega
    simp -dsimp -implicitDefEqProofs (disch := omega) [go_sem, -List.getD_eq_getElem?_getD, ite_yes, hlt]
    exact fin_flat rfl rfl
theorem iWaitingOf_A (n : Int) (ps : List Pp) (hps : ps.length ≤ 1048577) (cp : Nat) (l : List Vl) (hl : l.length ≤ 1048577) (c : Nat) (src : Int) (a : List Int) (ha : a.length ≤ 1048577) (d : Nat) (cu : List Int) (hcu : cu.length ≤ 1048577) (d2 : Nat) (H : Heap) (tp t u w : Nat) (hP : Sl ppE H tp ps) (hS : Sl vlE H t l) (hU : Sl nmE H u a) (hC : Sl nmE H w cu) :
    AFunC Tryz.prog 6 [netV n tp ps.length cp, .slice (some ⟨t, 0, none⟩) l.length c, .int .i64 src, .slice (some ⟨u, 0, none⟩) a.length d, .slice (some ⟨w, 0, none⟩) cu.length d2] H (waitV (isOrd n ps l src a && custOk n cu) (waitN n ps l src a cu)) H := by
  refine AFunC.of_body Tryz.func6 (by kernel_rfl) rfl (by kernel_rfl) (by simp [Tryz.ntmps6]) ?_
  have htp := hP.lt
  have ht := hS.lt
  have hu := hU.lt
  have hw := hC.lt
  simp -dsimp -implicitDefEqProofs (disch := omega) [go_sem, -List.getD_eq_getElem?_getD, ite_yes, htp, ht, hu, hw]
  refine ACall.of (iIsOrder_A n ps hps cp l hl c src a ha d _ tp t u hP.app hS.app hU.app) ?_
  cases ho : isOrd n ps l src a
  · simp -dsimp -implicitDefEqProofs (disch := omega) [go_sem, -List.getD_eq_getElem?_getD, ite_yes]
    exact fin_flat rfl rfl
  simp -dsimp -implicitDefEqProofs (disch := omega) [go_sem, -List.getD_eq_getElem?_getD, ite_yes, htp, ht, hu, hw]
  refine ACall.of (areCustomers_A n tp ps.length cp cu hcu d2 _ w (by simp -dsimp -implicitDefEqProofs (disch := omega) [go_sem, -List.getD_eq_getElem?_getD, ite_yes, htp]) hC.app) ?_
  cases hc : custOk n cu
  · simp -dsimp -implicitDefEqProofs (disch := omega) [go_sem, -List.getD_eq_getElem?_getD, ite_yes]
    exact fin_flat rfl rfl
  obtain ⟨hq, hal⟩ := isOrd_at ho
  have h6 := (askR_at hq).2.2.2.2
  simp -dsimp -implicitDefEqProofs (disch := omega) [go_sem, -List.getD_eq_getElem?_getD, ite_yes, htp, ht, hu, hw]
  refine ACall.of (waitingOf_A n ps cp l c src a hq (by omega) d cu hc d2 _ tp t u w hP.app hS.app hU.app hC.app) ?_
  simp -dsimp -implicitDefEqProofs (disch := omega) [go_sem, -List.getD_eq_getElem?_getD, ite_yes]
  exact fin_flat rfl rfl
theorem sWaitingOf_A (n : Int) (ps : List Pp) (hps : ps.length ≤ 1048577) (cp : Nat) (l : List Vl) (hl : l.length ≤ 1048577) (c : Nat) (src : Int) (a : List Int) (ha : a.length ≤ 1048577) (d : Nat) (cu : List Int) (hcu : cu.length ≤ 1048577) (d2 : Nat) (H : Heap) (tp t u w : Nat) (hP : Sl ppE H tp ps) (hS : Sl vlE H t l) (hU : Sl nmE H u a) (hC : Sl nmE H w cu) :
    AFunC Tryz.prog 7 [netV n tp ps.length cp, .slice (some ⟨t, 0, none⟩) l.length c, .int .i64 src, .slice (some ⟨u, 0, none⟩) a.length d, .slice (some ⟨w, 0, none⟩) cu.length d2] H (waitV (isOrd n ps l src a && custOk n cu) (waitN n ps l src a cu)) H := by
  refine AFunC.of_body Tryz.func7 (by kernel_rfl) rfl (by kernel_rfl) (by simp [Tryz.ntmps7]) ?_
  have htp := hP.lt
  have ht := hS.lt
  have hu := hU.lt
  have hw := hC.lt
  simp -dsimp -implicitDefEqProofs (disch := omega) [go_sem, -List.getD_eq_getElem?_getD, ite_yes, htp, ht, hu, hw]
  refine ACall.of (l18Order_A n ps hps cp l hl c src a ha d _ tp t u hP.app hS.app hU.app) ?_
  cases ho : isOrd n ps l src a
  · simp -dsimp -implicitDefEqProofs (disch := omega) [go_sem, -List.getD_eq_getElem?_getD, ite_yes]
    exact fin_flat rfl rfl
  simp -dsimp -implicitDefEqProofs (disch := omega) [go_sem, -List.getD_eq_getElem?_getD, ite_yes, htp, ht, hu, hw]
  refine ACall.of (l5Customers_A n tp ps.length cp cu hcu d2 _ w (by simp -dsimp -implicitDefEqProofs (disch := omega) [go_sem, -List.getD_eq_getElem?_getD, ite_yes, htp]) hC.app) ?_
  cases hc : custOk n cu
  · simp -dsimp -implicitDefEqProofs (disch := omega) [go_sem, -List.getD_eq_getElem?_getD, ite_yes]
    exact fin_flat rfl rfl
  obtain ⟨hq, hal⟩ := isOrd_at ho
  obtain ⟨hg, hN, hl10, hsrc, hs6⟩ := askR_at hq
  have hn := hN.f_n
  have hpl := hN.f_len
  obtain ⟨hcl, hcr⟩ := custOk_at hc
  simp -dsimp -implicitDefEqProofs (disch := omega) [go_sem, -List.getD_eq_getElem?_getD, ite_yes, htp, ht, hu, hw]
  refine ALoop.intro (ι := Nat) (fun k => k ≤ a.length) (fun k => [(1, .slice (some ⟨t, 0, none⟩) l.length c), (2, .int .i64 src), (3, .slice (some ⟨u, 0, none⟩) a.length d), (4, .slice (some ⟨w, 0, none⟩) cu.length d2), (5, .pointer (some ⟨H.length, 0, none⟩)), (12, .int .i64 (waitTo n ps l src a cu k)), (13, .int .i64 k)]) (fun _ => H ++ [some ⟨[.int .i64 n, .slice (some ⟨tp, 0, none⟩) ps.length cp], true, 26, 1⟩]) (fun k => a.length - k) 0 (by omega) ?_ ?_
  · refine weakS_mk [some 0] rfl ?_ (by simp -dsimp -implicitDefEqProofs (disch := omega) [go_sem, -List.getD_eq_getElem?_getD, ite_yes, htp, ht, hu, hw, waitTo])
    simp -dsimp -implicitDefEqProofs (disch := omega) [go_sem, -List.getD_eq_getElem?_getD, ite_yes]
    exact wl_net htp
  intro k hk
  by_cases hlt : k < a.length
  · have e : waitTo n ps l src a cu (k + 1) = waitTo n ps l src a cu k + stepN n ps l src (a.take k) cu := rfl
    have b1 := waitTo_rng hn (ps := ps) (l := l) (src := src) (a := a) hcr k
    have b2 := stepN_rng hn (ps := ps) (l := l) (src := src) (ids := a.take k) hcr
    have A := fun (G : Heap) (h1 : Sl ppE G tp ps) (h2 : Sl vlE G t l) (h3 : IdS G u 0 (a.take k)) (h4 : Sl nmE G w cu) => l18Step_A n ps hN cp l hl c src hsrc (a.take k) (by rw [List.length_take]; omega) k 0 cu hc d2 G tp t u w h1 h2 h3 h4
    simp only [List.length_take_of_le hk] at A
    generalize stepN n ps l src (a.take k) cu = s at *
    generalize hW : waitTo n ps l src a cu k = W at *
    simp -dsimp -implicitDefEqProofs (disch := omega) [go_sem, -List.getD_eq_getElem?_getD, ite_yes, hlt, htp, ht, hu, hw]
    refine ADraw.any H (by kernel_rfl) (by first | exact SubH.refl | exact SubH.app | exact SubH.both (by simp [subL])) ?_
    refine AAny.takes (fuel := 4) (by kernel_rfl) (by kernel_rfl) [0, 2, 3, 4, 5, 6, 7] (by kernel_rfl) (by kernel_rfl) ?_
    simp -dsimp -implicitDefEqProofs (disch := omega) [go_sem, -List.getD_eq_getElem?_getD, ite_yes, htp, ht, hu, hw, hk]
    refine AAny.one1 3 1 ?_
    simp -dsimp -implicitDefEqProofs (disch := omega) [go_sem, -List.getD_eq_getElem?_getD, ite_yes, htp, ht, hu, hw, hk]
    refine AAt.of1 ?_
    refine AAny.one1 2 8 ?_
    simp -dsimp -implicitDefEqProofs (disch := omega) [go_sem, -List.getD_eq_getElem?_getD, ite_yes, htp, ht, hu, hw, hk]
    refine ACall.of (A _ hP.app hS.app (IdS.of (hU.app.take k)) hC.app) ?_
    simp -dsimp -implicitDefEqProofs (disch := omega) [go_sem, -List.getD_eq_getElem?_getD, ite_yes, htp, ht, hu, hw, hk]
    refine AAt.of1 ?_
    refine AAny.takes (fuel := 0) (by kernel_rfl) (by kernel_rfl) [9, 10] (by kernel_rfl) (by kernel_rfl) ?_
    simp -dsimp -implicitDefEqProofs (disch := omega) [go_sem, -List.getD_eq_getElem?_getD, ite_yes, htp, ht, hu, hw, hk]
    refine AAny.done (by kernel_rfl) ?_
    simp -dsimp -implicitDefEqProofs (disch := omega) [go_sem, -List.getD_eq_getElem?_getD, ite_yes, htp, ht, hu, hw, hk]
    refine LoopEnd.of (k + 1) (by omega) (by omega) (weakS_mk [some 0] rfl ?_ (by simp -dsimp -implicitDefEqProofs (disch := omega) [go_sem, -List.getD_eq_getElem?_getD, ite_yes, htp, ht, hu, hw, e]))
    simp -dsimp -implicitDefEqProofs (disch := omega) [go_sem, -List.getD_eq_getElem?_getD, ite_yes]
    exact wl_net htp
  · obtain rfl : k = a.length := by omega
    simp -dsimp -implicitDefEqProofs (disch := omega) [go_sem, -List.getD_eq_getElem?_getD, ite_yes, hlt]
    exact fin_flat rfl rfl
theorem waitV_flat (b : Bool) (w : Int) : ∃ (x : Int) (y : Bool), waitV b w = .tuple #[.int .i64 x, .bool y] := by
  unfold waitV
  cases b
  · exact ⟨0, false, rfl⟩
  · exact ⟨w, true, rfl⟩
end Go.Proofs.YtncblopbcnkinaaGreat
