/- Assignments of tasks to crews: what is valid, the loads and the end. -/
import Derived.Test.YtkjgmppcgcimgaaTasks
import Derived.Test.YtkjgmppcgcimgaaFind
import Derived.Test.YtkjgmppcgcimgaaFrac
namespace Go.Proofs.Ytkjgmppcgcimgaa
open Go.Am
set_option linter.unusedVariables false
set_option linter.unusedSimpArgs false
set_option maxRecDepth 100000
set_option maxHeartbeats 1000000

/-! ### Assignments -/
def asgAll (a : List Int) (crews : Int) : Bool := decide (∀ i, i < a.length → inB (a.getD i 0) 0 (crews - 1) = true)
def askOk (l : List Tk) (crews : Int) : Bool := goodT l && inB crews 1 3
def asgOk (l : List Tk) (crews : Int) (a : List Int) : Bool := askOk l crews && (decide (a.length = l.length) && asgAll a crews)
theorem asg_found {a : List Int} {crews r : Int} (h : Found 0 (fun x => !inB x 0 (crews - 1)) a r) : decide (0 ≤ r) = !asgAll a crews := by
  cases h with
  | yes i h1 h2 h3 =>
    have : asgAll a crews = false := decide_eq_false fun h => by
      have h2 : (!inB (a.getD i 0) 0 (crews - 1)) = true := h2
      rw [h i h1] at h2; cases h2
    rw [this]; simp
  | no h =>
    have : asgAll a crews = true := decide_eq_true fun i hi => by simpa using h i hi
    rw [this]; rfl
structure AsgAt (l : List Tk) (crews : Int) (a : List Int) : Prop where
  f_good : goodT l = true
  f_crews : 1 ≤ crews ∧ crews ≤ 3
  f_len : a.length = l.length
  f_in : ∀ i, i < a.length → 0 ≤ a.getD i 0 ∧ a.getD i 0 ≤ crews - 1
theorem AsgAt.of {l : List Tk} {crews : Int} {a : List Int} (h : asgOk l crews a = true) : AsgAt l crews a := by
  simp only [asgOk, askOk, asgAll, inB, Bool.and_eq_true, decide_eq_true_eq] at h
  exact ⟨h.1.1, h.1.2, h.2.1, h.2.2⟩
/-! ### Loads -/
def loadTo (l : List Tk) (crews : Int) (a : List Int) : Nat → List Int
  | 0 => List.replicate crews.toNat 0
  | k + 1 => (loadTo l crews a k).set (a.getD k 0).toNat ((loadTo l crews a k).getD (a.getD k 0).toNat 0 + (l.getD k (0, 0, 0)).2.2)
theorem loadTo_length (l : List Tk) (crews : Int) (a : List Int) : ∀ k, (loadTo l crews a k).length = crews.toNat
  | 0 => by simp [loadTo]
  | k + 1 => by simp only [loadTo, List.length_set]; exact loadTo_length l crews a k
theorem getD_set_of {s : List Int} {i j : Nat} {x : Int} : (s.set i x).getD j 0 = if i = j ∧ j < s.length then x else s.getD j 0 := by
  simp only [List.getD, List.getElem?_set]
  by_cases h : i = j
  · subst h
    by_cases h2 : i < s.length
    · simp [h2]
    · simp [h2]
  · simp [h]
theorem loadTo_bound {l : List Tk} {crews : Int} {a : List Int} (h : AsgAt l crews a) : ∀ k, k ≤ l.length → ∀ q, 0 ≤ (loadTo l crews a k).getD q 0 ∧ (loadTo l crews a k).getD q 0 ≤ 480 * k
  | 0, _, q => by
    simp only [loadTo, List.getD, List.getElem?_replicate]
    split <;> simp
  | k + 1, hk, q => by
    have ih := loadTo_bound h k (by omega)
    have i1 := ih q
    have i2 := ih (a.getD k 0).toNat
    have g := (goodT_at h.f_good).2 k (by omega)
    simp only [loadTo]
    rw [getD_set_of]
    split <;> omega
theorem rep_zero (n : Nat) : List.replicate n (Value.int .i64 0) = (List.replicate n (0 : Int)).flatMap nmE := by
  induction n with
  | zero => rfl
  | succ n ih => rw [List.replicate_succ, List.replicate_succ, List.flatMap_cons, ← ih]; rfl
theorem nm_cell (s : List Int) {q : Nat} (hq : q < s.length) : List.take 1 (List.drop q (s.flatMap nmE)) = [.int .i64 (s.getD q 0)] := by
  have := flatMap_cells nmE 1 (fun _ => rfl) 0 s q hq
  rwa [Nat.mul_one] at this
theorem nm_set (s : List Int) (x : Int) {q : Nat} (hq : q < s.length) : (s.flatMap nmE).set q (.int .i64 x) = (s.set q x).flatMap nmE := by
  have := set_cell (f := nmE) (s := 1) (fun _ => rfl) x 0 hq (j := 0) (by omega) (v := .int .i64 x) rfl
  rwa [Nat.mul_one, Nat.add_zero] at this
end Go.Proofs.Ytkjgmppcgcimgaa
