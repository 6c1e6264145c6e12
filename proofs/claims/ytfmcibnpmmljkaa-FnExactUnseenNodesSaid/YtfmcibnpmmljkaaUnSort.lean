/- UnseenNodes: the order of the alarms, and the sort. -/
import Derived.Test.YtfmcibnpmmljkaaRules
import Derived.Test.YtfmcibnpmmljkaaFrac
namespace Go.Proofs.Ytfmcibnpmmljkaa
open Go.Am
set_option linter.unusedVariables false
set_option linter.unusedSimpArgs false
set_option maxRecDepth 100000
set_option maxHeartbeats 4000000

abbrev alD : Al := (0, 0, 0, false)
/-- where an alarm belongs among some: behind the last that is not later, of the first k -/
def posA (L : List Al) (x : Al) : Nat → Nat
  | 0 => 0
  | k + 1 => if x.2.2.1 < (L.getD k alD).2.2.1 then posA L x k else k + 1
theorem posA_le (L : List Al) (x : Al) : ∀ k, posA L x k ≤ k
  | 0 => Nat.le_refl _
  | k + 1 => by have := posA_le L x k; rw [posA]; split <;> omega
def insA (L : List Al) (x : Al) : List Al := L.take (posA L x L.length) ++ x :: L.drop (posA L x L.length)
def ordA (l : List Al) : Nat → List Al
  | 0 => []
  | i + 1 => insA (ordA l i) (l.getD i alD)
theorem insA_length (L : List Al) (x : Al) : (insA L x).length = L.length + 1 := by
  have := posA_le L x L.length
  rw [insA]
  simp only [List.length_append, List.length_take, List.length_cons, List.length_drop]
  omega
theorem ordA_length (l : List Al) : ∀ i, (ordA l i).length = i
  | 0 => rfl
  | i + 1 => by rw [ordA, insA_length, ordA_length l i]
theorem ordA_app (l m : List Al) : ∀ i, i ≤ l.length → ordA (l ++ m) i = ordA l i
  | 0, _ => rfl
  | i + 1, h => by
    rw [ordA, ordA, ordA_app l m i (by omega)]
    congr 1
    rw [List.getD_eq_getElem?_getD, List.getD_eq_getElem?_getD, List.getElem?_append_left (by omega)]
def sortA (l : List Al) : List Al := ordA l l.length
theorem sortA_snoc (l : List Al) (x : Al) : sortA (l ++ [x]) = insA (sortA l) x := by
  unfold sortA
  rw [List.length_append, List.length_singleton, ordA, ordA_app l [x] l.length (Nat.le_refl _)]
  congr 1
  rw [List.getD_eq_getElem?_getD, List.getElem?_append_right (Nat.le_refl _), Nat.sub_self]; rfl
/-- those of the first k that are not seen -/
def unTo (l : List Al) (k : Nat) : List Al := (l.take k).filter fun a => !a.2.2.2
theorem unTo_next {l : List Al} {k : Nat} (h : k < l.length) : unTo l (k + 1) = if (l.getD k alD).2.2.2 = true then unTo l k else unTo l k ++ [l.getD k alD] := by
  unfold unTo
  rw [List.take_succ_eq_append_getElem h, List.filter_append, List.getD_eq_getElem?_getD, List.getElem?_eq_getElem h]
  cases hs : (l[k]).2.2.2 <;> simp [hs]
theorem unTo_length (l : List Al) (k : Nat) : (unTo l k).length ≤ k := by
  unfold unTo
  have := List.length_filter_le (fun a : Al => !a.2.2.2) (l.take k)
  rw [List.length_take] at this
  omega
def unN (l : List Al) : List Int := (sortA (unTo l l.length)).map (·.1)
theorem goodA_small {l : List Al} (h : goodA l = true) : l.length ≤ 8 := by
  have ha := asc_at h
  have key : ∀ i, i < l.length → (i : Int) + 1 ≤ (l.getD i (0, 0, 0, false)).1 ∧ (l.getD i (0, 0, 0, false)).1 ≤ 8 := by
    intro i
    induction i with
    | zero =>
      intro hi
      have h1 := (ha 0 hi).1
      simp only [isAl, inB, Bool.and_eq_true, decide_eq_true_eq] at h1
      omega
    | succ i ih =>
      intro hi
      have h0 := ih (by omega)
      have h1 := (ha (i + 1) hi).1
      have h2 := (ha (i + 1) hi).2 (by omega)
      simp only [isAl, inB, Bool.and_eq_true, decide_eq_true_eq] at h1
      simp only [goodAR, decide_eq_true_eq, Nat.add_sub_cancel] at h2
      omega
  rcases Nat.lt_or_ge 8 l.length with h8 | h8
  · have := key 8 h8
    omega
  · exact h8
/-- the list within the sort: the i-th stands at j -/
def midA (l : List Al) (i j : Nat) : List Al := (ordA l i).take j ++ l.getD i alD :: ((ordA l i).drop j ++ l.drop (i + 1))
def outA (l : List Al) (i : Nat) : List Al := ordA l i ++ l.drop i
theorem outA_mid {l : List Al} {i : Nat} (h : i < l.length) : outA l i = midA l i i := by
  unfold outA midA
  rw [show (ordA l i).take i = ordA l i from List.take_of_length_le (by rw [ordA_length]; omega), show (ordA l i).drop i = [] from List.drop_of_length_le (by rw [ordA_length]; omega), List.nil_append, List.drop_eq_getElem_cons h, List.getD_eq_getElem?_getD, List.getElem?_eq_getElem h]
  rfl
theorem midA_out (l : List Al) (i : Nat) : midA l i (posA (ordA l i) (l.getD i alD) i) = outA l (i + 1) := by
  unfold outA midA
  rw [ordA, insA, ordA_length, List.append_assoc, List.cons_append]
theorem al_at (A T : List Al) (y : Al) : List.take 4 (List.drop (A.length * 4) ((A ++ y :: T).flatMap alE)) = alE y := by
  have := flatMap_cells alE 4 (fun _ => rfl) alD (A ++ y :: T) A.length (by simp)
  rw [this]
  simp
theorem al_put (A T : List Al) (y z : Al) : (A ++ z :: T).flatMap alE = ((A ++ y :: T).flatMap alE).take (A.length * 4) ++ (alE z ++ ((A ++ y :: T).flatMap alE).drop (A.length * 4 + 4)) := by
  have := set_flat_eq (f := alE) (s := 4) (l := A ++ y :: T) (i := A.length) (fun _ => rfl) z (by simp)
  rw [← this]
  simp
def unF (x : Al) : List Value := alE x
theorem unCmp_A (x y : Al) (H : Heap) : AFunC Try.prog 32 [.agg #[.int .i64 x.1, .int .i64 x.2.1, .int .i64 x.2.2.1, .bool x.2.2.2], .agg #[.int .i64 y.1, .int .i64 y.2.1, .int .i64 y.2.2.1, .bool y.2.2.2]] H (.int .i64 (cmpI x.2.2.1 y.2.2.1)) H := by
  refine AFunC.of_body Try.func32 (by kernel_rfl) rfl (by kernel_rfl) (by simp [Try.ntmps32]) ?_
  simp -dsimp -implicitDefEqProofs (disch := omega) [go_sem, -List.getD_eq_getElem?_getD, ite_yes]
  refine ACall.of (compare_A _ _ _) ?_
  simp -dsimp -implicitDefEqProofs (disch := omega) [go_sem, -List.getD_eq_getElem?_getD, ite_yes]
  first | exact fin_flat0 rfl rfl | exact fin_flat rfl rfl
end Go.Proofs.Ytfmcibnpmmljkaa
