/- Assignments of tasks to crews: what is valid, the loads and the end. -/
import Derived.Test.YthajahknincjjaaTasks
import Derived.Test.YthajahknincjjaaFind
import Derived.Test.YthajahknincjjaaFrac
namespace Go.Proofs.Ythajahknincjjaa
open Go.Am
set_option linter.unusedVariables false
set_option linter.unusedSimpArgs false
set_option maxRecDepth 100000
set_option maxHeartbeats 1000000

theorem indexFuncNm_A (l : List Int) (p : Int → Bool) (g : Nat) (cap : Array Value) (r : Int) (hr : Found 0 p l r) (hl : l.length ≤ 1048577) (c : Nat) (H : Heap) (t : Nat) (hS : Sl nmE H t l) (hc : L2 (WMP (sg H.length []) H.length) cap.toList cap.toList)
    (hp : ∀ k, k < l.length → AFunC Try.prog g (.int .i64 (l.getD k 0) :: cap.toList) H (.bool (p (l.getD k 0))) H) :
    AFunC Try.prog 52 [.slice (some ⟨t, 0, none⟩) l.length c, .func (.func g) #[] cap] H (.int .i64 r) H := by
  refine AFunC.of_body Try.func52 (by kernel_rfl) rfl (by kernel_rfl) (by simp [Try.ntmps52]) ?_
  have ht := hS.lt
  have cs := fun k hk => hS.one (g := fun n => Value.int .i64 n) 0 k hk
  simp -dsimp -implicitDefEqProofs (disch := omega) [go_sem, -List.getD_eq_getElem?_getD, ite_yes]
  refine ALoop.intro (ι := Nat) (fun k => k ≤ l.length ∧ findTo 0 p l k) (fun k => [(0, .slice (some ⟨t, 0, none⟩) l.length c), (1, .func (.func g) #[] cap), (7, .int .i64 l.length), (8, .int .i64 k)]) (fun _ => H) (fun k => l.length - k) 0 ⟨by omega, fun i hi => by omega⟩ ?_ ?_
  · exact weakS_same (by simp -dsimp -implicitDefEqProofs (disch := omega) [go_sem, -List.getD_eq_getElem?_getD, ite_yes, ht]; simpa using hc)
  · rintro k ⟨hk, hf⟩
    by_cases hlt : k < l.length
    · simp -dsimp -implicitDefEqProofs (disch := omega) [go_sem, -List.getD_eq_getElem?_getD, ite_yes, hlt, cs]
      refine ACall.of (hp k hlt) ?_
      simp -dsimp -implicitDefEqProofs (disch := omega) [go_sem, -List.getD_eq_getElem?_getD, ite_yes]
      refine AIf.of (fun h => ?_) (fun h => ?_)
      · simp -dsimp -implicitDefEqProofs (disch := omega) [go_sem, -List.getD_eq_getElem?_getD, ite_yes]
        have := found_uniq hr (.yes k hlt h hf)
        exact fin_flat0 rfl (by rw [this])
      · simp -dsimp -implicitDefEqProofs (disch := omega) [go_sem, -List.getD_eq_getElem?_getD, ite_yes]
        exact LoopEnd.of (k + 1) ⟨by omega, hf.next h⟩ (by omega) (weakS_same (by simp -dsimp -implicitDefEqProofs (disch := omega) [go_sem, -List.getD_eq_getElem?_getD, ite_yes, ht]; simpa using hc))
    · simp -dsimp -implicitDefEqProofs (disch := omega) [go_sem, -List.getD_eq_getElem?_getD, ite_yes, hlt]
      obtain rfl : k = l.length := by omega
      have := found_uniq hr (.no hf)
      exact fin_flat0 rfl (by rw [this])
theorem containsFuncNm_A (l : List Int) (p : Int → Bool) (g : Nat) (cap : Array Value) (r : Int) (hr : Found 0 p l r) (hl : l.length ≤ 1048577) (c : Nat) (H : Heap) (t : Nat) (hS : Sl nmE H t l) (hc : L2 (WMP (sg H.length []) H.length) cap.toList cap.toList)
    (hp : ∀ k, k < l.length → AFunC Try.prog g (.int .i64 (l.getD k 0) :: cap.toList) H (.bool (p (l.getD k 0))) H) :
    AFunC Try.prog 45 [.slice (some ⟨t, 0, none⟩) l.length c, .func (.func g) #[] cap] H (.bool (decide (0 ≤ r))) H := by
  refine AFunC.of_body Try.func45 (by kernel_rfl) rfl (by kernel_rfl) (by simp [Try.ntmps45]) ?_
  simp -dsimp -implicitDefEqProofs (disch := omega) [go_sem, -List.getD_eq_getElem?_getD, ite_yes]
  refine ACall.of (indexFuncNm_A l p g cap r hr hl c H t hS hc hp) ?_
  simp -dsimp -implicitDefEqProofs (disch := omega) [go_sem, -List.getD_eq_getElem?_getD, ite_yes]
  exact fin_flat0 rfl rfl
/-- the greatest of the first k numbers, and 0 -/
def mxTo (l : List Int) : Nat → Int
  | 0 => 0
  | k + 1 => max (mxTo l k) (l.getD k 0)
theorem maxNm_A (l : List Int) (h0 : 0 < l.length) (hn : ∀ i, i < l.length → 0 ≤ l.getD i 0) (hl : l.length ≤ 1048577) (c : Nat) (H : Heap) (t : Nat) (hS : Sl nmE H t l) :
    AFunC Try.prog 48 [.slice (some ⟨t, 0, none⟩) l.length c] H (.int .i64 (mxTo l l.length)) H := by
  refine AFunC.of_body Try.func48 (by kernel_rfl) rfl (by kernel_rfl) (by simp [Try.ntmps48]) ?_
  have ht := hS.lt
  have cs := fun k hk => hS.one (g := fun n => Value.int .i64 n) 0 k hk
  have c0 := cs 0 h0
  have h1 : ¬ (l.length : Int) < 1 := by omega
  have h2 : ¬ l.length < 1 := by omega
  have m1 : mxTo l 1 = l.getD 0 0 := by have := hn 0 h0; simp only [mxTo]; omega
  simp -dsimp -implicitDefEqProofs (disch := omega) [go_sem, -List.getD_eq_getElem?_getD, ite_yes, h1, h2, c0, h0]
  refine ALoop.intro (ι := Nat) (fun k => 1 ≤ k ∧ k ≤ l.length) (fun k => [(0, .slice (some ⟨t, 0, none⟩) l.length c), (3, .int .i64 (mxTo l k)), (4, .int .i64 k)]) (fun _ => H) (fun k => l.length - k) 1 ⟨by omega, by omega⟩ ?_ ?_
  · exact weakS_same (by simp -dsimp -implicitDefEqProofs (disch := omega) [go_sem, -List.getD_eq_getElem?_getD, ite_yes, ht, m1])
  · rintro k ⟨hk, hk'⟩
    by_cases hlt : k < l.length
    · have e : mxTo l (k + 1) = if mxTo l k < l.getD k 0 then l.getD k 0 else mxTo l k := by simp only [mxTo]; split <;> omega
      simp -dsimp -implicitDefEqProofs (disch := omega) [go_sem, -List.getD_eq_getElem?_getD, ite_yes, hlt, cs]
      exact LoopEnd.of (k + 1) (by omega) (by omega) (weakS_same (by simp -dsimp -implicitDefEqProofs (disch := omega) [go_sem, -List.getD_eq_getElem?_getD, ite_yes, ht, e]))
    · simp -dsimp -implicitDefEqProofs (disch := omega) [go_sem, -List.getD_eq_getElem?_getD, ite_yes, hlt]
      obtain rfl : k = l.length := by omega
      exact fin_flat0 rfl rfl
/-! ### Assignments -/
def asgAll (a : List Int) (crews : Int) : Bool := decide (∀ i, i < a.length → inB (a.getD i 0) 0 (crews - 1) = true)
def askOk (l : List Tk) (crews : Int) : Bool := goodT l && inB crews 1 3
def asgOk (l : List Tk) (crews : Int) (a : List Int) : Bool := askOk l crews && (decide (a.length = l.length) && asgAll a crews)
theorem asg_found {a : List Int} {crews r : Int} (h : Found 0 (fun x => !inB x 0 (crews - 1)) a r) : decide (0 ≤ r) = !asgAll a crews := by
  cases h with
  | yes i h1 h2 h3 =>
    have : asgAll a crews = false := decide_eq_false fun h => by
      have h2 : (!inB (a.getD i 0) 0 (crews - 1)) = true := h2
      rw [h i h1] at h2; cases h2
    rw [this]; simp
  | no h =>
    have : asgAll a crews = true := decide_eq_true fun i hi => by simpa using h i hi
    rw [this]; rfl
structure AsgAt (l : List Tk) (crews : Int) (a : List Int) : Prop where
  f_good : goodT l = true
  f_crews : 1 ≤ crews ∧ crews ≤ 3
  f_len : a.length = l.length
  f_in : ∀ i, i < a.length → 0 ≤ a.getD i 0 ∧ a.getD i 0 ≤ crews - 1
theorem AsgAt.of {l : List Tk} {crews : Int} {a : List Int} (h : asgOk l crews a = true) : AsgAt l crews a := by
  simp only [asgOk, askOk, asgAll, inB, Bool.and_eq_true, decide_eq_true_eq] at h
  exact ⟨h.1.1, h.1.2, h.2.1, h.2.2⟩
theorem areCrews_A (l : List Tk) (crews : Int) (hl : l.length ≤ 1048577) (c : Nat) (H : Heap) (t : Nat) (hS : Sl tkE H t l) :
    AFunC Try.prog 29 [.slice (some ⟨t, 0, none⟩) l.length c, .int .i64 crews] H (.bool (askOk l crews)) H := by
  refine AFunC.of_body Try.func29 (by kernel_rfl) rfl (by kernel_rfl) (by simp [Try.ntmps29]) ?_
  have ht := hS.lt
  simp -dsimp -implicitDefEqProofs (disch := omega) [go_sem, -List.getD_eq_getElem?_getD, ite_yes]
  refine ACall.of (iValidTasks_A l hl c H t hS) ?_
  cases g1 : goodT l
  · simp -dsimp -implicitDefEqProofs (disch := omega) [go_sem, -List.getD_eq_getElem?_getD, ite_yes]
    exact fin_flat0 rfl (by simp [askOk, g1])
  simp -dsimp -implicitDefEqProofs (disch := omega) [go_sem, -List.getD_eq_getElem?_getD, ite_yes]
  refine ACall.of (inside_A _ _ _ _) ?_
  simp -dsimp -implicitDefEqProofs (disch := omega) [go_sem, -List.getD_eq_getElem?_getD, ite_yes]
  exact fin_flat0 rfl (by simp [askOk, g1])
theorem l22Asked_A (l : List Tk) (crews : Int) (hl : l.length ≤ 1048577) (c : Nat) (H : Heap) (t : Nat) (hS : Sl tkE H t l) :
    AFunC Try.prog 33 [.slice (some ⟨t, 0, none⟩) l.length c, .int .i64 crews] H (.bool (askOk l crews)) H := by
  refine AFunC.of_body Try.func33 (by kernel_rfl) rfl (by kernel_rfl) (by simp [Try.ntmps33]) ?_
  have ht := hS.lt
  simp -dsimp -implicitDefEqProofs (disch := omega) [go_sem, -List.getD_eq_getElem?_getD, ite_yes]
  refine ACall.of (l22Good_A l hl c H t hS) ?_
  cases g1 : goodT l
  · simp -dsimp -implicitDefEqProofs (disch := omega) [go_sem, -List.getD_eq_getElem?_getD, ite_yes]
    exact fin_flat0 rfl (by simp [askOk, g1])
  simp -dsimp -implicitDefEqProofs (disch := omega) [go_sem, -List.getD_eq_getElem?_getD, ite_yes]
  refine ACall.of (l1In_A _ _ _ _) ?_
  simp -dsimp -implicitDefEqProofs (disch := omega) [go_sem, -List.getD_eq_getElem?_getD, ite_yes]
  exact fin_flat0 rfl (by simp [askOk, g1])
theorem isAsgF_A (x crews : Int) (hc : 1 ≤ crews ∧ crews ≤ 3) (H : Heap) (t : Nat) (h : aCells H ⟨t, 0, none⟩ 1 = some [.int .i64 crews]) : AFunC Try.prog 46 [.int .i64 x, .pointer (some ⟨t, 0, none⟩)] H (.bool (!inB x 0 (crews - 1))) H := by
  refine AFunC.of_body Try.func46 (by kernel_rfl) rfl (by kernel_rfl) (by simp [Try.ntmps46]) ?_
  simp -dsimp -implicitDefEqProofs (disch := omega) [go_sem, -List.getD_eq_getElem?_getD, ite_yes, h]
  refine ACall.of (inside_A _ _ _ _) ?_
  simp -dsimp -implicitDefEqProofs (disch := omega) [go_sem, -List.getD_eq_getElem?_getD, ite_yes]
  exact fin_flat0 rfl rfl
theorem isAssignment_A (l : List Tk) (crews : Int) (a : List Int) (hl : l.length ≤ 1048577) (ha : a.length ≤ 1048577) (c c2 : Nat) (H : Heap) (t u : Nat) (hS : Sl tkE H t l) (hU : Sl nmE H u a) :
    AFunC Try.prog 25 [.slice (some ⟨t, 0, none⟩) l.length c, .int .i64 crews, .slice (some ⟨u, 0, none⟩) a.length c2] H (.bool (asgOk l crews a)) H := by
  refine AFunC.of_body Try.func25 (by kernel_rfl) rfl (by kernel_rfl) (by simp [Try.ntmps25]) ?_
  have ht := hS.lt
  have hu := hU.lt
  simp -dsimp -implicitDefEqProofs (disch := omega) [go_sem, -List.getD_eq_getElem?_getD, ite_yes]
  refine ACall.of (areCrews_A l crews hl c _ t hS.app) ?_
  cases g1 : askOk l crews
  · simp -dsimp -implicitDefEqProofs (disch := omega) [go_sem, -List.getD_eq_getElem?_getD, ite_yes]
    exact fin_flat rfl (by simp [asgOk, g1])
  have g1' := g1
  simp only [askOk, inB, Bool.and_eq_true, decide_eq_true_eq] at g1'
  by_cases g2 : a.length = l.length
  · have g2' : (a.length : Int) = (l.length : Int) := by omega
    obtain ⟨r, hr⟩ := found_ex 0 (fun x => !inB x 0 (crews - 1)) a a.length 0 (by omega) (fun i hi => by omega) (by omega)
    have ef := asg_found hr
    have g3 : (a.length = l.length) = True := eq_true g2
    simp -dsimp -implicitDefEqProofs (disch := omega) [go_sem, -List.getD_eq_getElem?_getD, ite_yes, g3, g2', hu]
    refine ACall.of (containsFuncNm_A a (fun x => !inB x 0 (crews - 1)) 46 #[.pointer (some ⟨H.length, 0, none⟩)] r hr ha c2 _ u hU.app (by simp [L2, WMP, sg]) (fun k hk => isAsgF_A _ crews g1'.2 _ _ (by rw [aCells_at0]; rfl))) ?_
    simp -dsimp -implicitDefEqProofs (disch := omega) [go_sem, -List.getD_eq_getElem?_getD, ite_yes, ef]
    exact fin_flat rfl (by simp [asgOk, g1, g2])
  · have g2' : ¬ (a.length : Int) = (l.length : Int) := by omega
    simp -dsimp -implicitDefEqProofs (disch := omega) [go_sem, -List.getD_eq_getElem?_getD, ite_yes, g2, g2']
    exact fin_flat rfl (by simp [asgOk, g1, g2])
theorem l22Assignment_A (l : List Tk) (crews : Int) (a : List Int) (hl : l.length ≤ 1048577) (ha : a.length ≤ 1048577) (c c2 : Nat) (H : Heap) (t u : Nat) (hS : Sl tkE H t l) (hU : Sl nmE H u a) :
    AFunC Try.prog 27 [.slice (some ⟨t, 0, none⟩) l.length c, .int .i64 crews, .slice (some ⟨u, 0, none⟩) a.length c2] H (.bool (asgOk l crews a)) H := by
  refine AFunC.of_body Try.func27 (by kernel_rfl) rfl (by kernel_rfl) (by simp [Try.ntmps27]) ?_
  have ht := hS.lt
  have hu := hU.lt
  have cs := fun k hk => hU.one (g := fun n => Value.int .i64 n) 0 k hk
  simp -dsimp -implicitDefEqProofs (disch := omega) [go_sem, -List.getD_eq_getElem?_getD, ite_yes]
  refine ALoop.intro (ι := Nat) (fun k => k ≤ a.length ∧ ∀ i, i < k → inB (a.getD i 0) 0 (IntKind.i64.wrap (crews - 1)) = true) (fun k => [(0, .slice (some ⟨t, 0, none⟩) l.length c), (1, .int .i64 crews), (2, .slice (some ⟨u, 0, none⟩) a.length c2), (7, .int .i64 k)]) (fun _ => H) (fun k => a.length - k) 0 ⟨by omega, fun i hi => by omega⟩ ?_ ?_
  · exact weakS_same (by simp -dsimp -implicitDefEqProofs (disch := omega) [go_sem, -List.getD_eq_getElem?_getD, ite_yes, ht, hu])
  · rintro k ⟨hk, hf⟩
    by_cases hlt : k < a.length
    · simp -dsimp -implicitDefEqProofs (disch := omega) [go_sem, -List.getD_eq_getElem?_getD, ite_yes, hlt, cs]
      refine ACall.of (l1In_A _ _ _ _) ?_
      cases g : inB (a.getD k 0) 0 (IntKind.i64.wrap (crews - 1))
      · simp -dsimp -implicitDefEqProofs (disch := omega) [go_sem, -List.getD_eq_getElem?_getD, ite_yes]
        refine fin_flat0 rfl ?_
        have : asgOk l crews a = false := by
          cases g1 : askOk l crews
          · simp [asgOk, g1]
          · simp only [askOk, inB, Bool.and_eq_true, decide_eq_true_eq] at g1
            rw [wrap_ok (by omega) (by omega)] at g
            have : asgAll a crews = false := decide_eq_false fun h => by rw [h k hlt] at g; cases g
            simp [asgOk, this]
        rw [this]
      · simp -dsimp -implicitDefEqProofs (disch := omega) [go_sem, -List.getD_eq_getElem?_getD, ite_yes]
        refine LoopEnd.of (k + 1) ⟨by omega, fun i hi => ?_⟩ (by omega) (weakS_same (by simp -dsimp -implicitDefEqProofs (disch := omega) [go_sem, -List.getD_eq_getElem?_getD, ite_yes, ht, hu]))
        rcases Nat.lt_or_ge i k with h | h
        · exact hf i h
        · rw [show i = k by omega]; exact g
    · simp -dsimp -implicitDefEqProofs (disch := omega) [go_sem, -List.getD_eq_getElem?_getD, ite_yes, hlt]
      obtain rfl : k = a.length := by omega
      refine ACall.of (l22Asked_A l crews hl c _ t hS) ?_
      cases g1 : askOk l crews
      · simp -dsimp -implicitDefEqProofs (disch := omega) [go_sem, -List.getD_eq_getElem?_getD, ite_yes]
        exact fin_flat0 rfl (by simp [asgOk, g1])
      have g1' := g1
      simp only [askOk, inB, Bool.and_eq_true, decide_eq_true_eq] at g1'
      have g3 : asgAll a crews = true := decide_eq_true fun i hi => by
        have := hf i hi
        rwa [wrap_ok (by omega) (by omega)] at this
      by_cases g2 : a.length = l.length
      · have g2' : (a.length : Int) = (l.length : Int) := by omega
        simp -dsimp -implicitDefEqProofs (disch := omega) [go_sem, -List.getD_eq_getElem?_getD, ite_yes, g2, g2']
        exact fin_flat0 rfl (by simp [asgOk, g1, g2, g3])
      · have g2' : ¬ (a.length : Int) = (l.length : Int) := by omega
        simp -dsimp -implicitDefEqProofs (disch := omega) [go_sem, -List.getD_eq_getElem?_getD, ite_yes, g2, g2']
        exact fin_flat0 rfl (by simp [asgOk, g1, g2])
/-! ### Loads -/
def loadTo (l : List Tk) (crews : Int) (a : List Int) : Nat → List Int
  | 0 => List.replicate crews.toNat 0
  | k + 1 => (loadTo l crews a k).set (a.getD k 0).toNat ((loadTo l crews a k).getD (a.getD k 0).toNat 0 + (l.getD k (0, 0, 0)).2.2)
theorem loadTo_length (l : List Tk) (crews : Int) (a : List Int) : ∀ k, (loadTo l crews a k).length = crews.toNat
  | 0 => by simp [loadTo]
  | k + 1 => by simp only [loadTo, List.length_set]; exact loadTo_length l crews a k
theorem getD_set_of {s : List Int} {i j : Nat} {x : Int} : (s.set i x).getD j 0 = if i = j ∧ j < s.length then x else s.getD j 0 := by
  simp only [List.getD, List.getElem?_set]
  by_cases h : i = j
  · subst h
    by_cases h2 : i < s.length
    · simp [h2]
    · simp [h2]
  · simp [h]
theorem loadTo_bound {l : List Tk} {crews : Int} {a : List Int} (h : AsgAt l crews a) : ∀ k, k ≤ l.length → ∀ q, 0 ≤ (loadTo l crews a k).getD q 0 ∧ (loadTo l crews a k).getD q 0 ≤ 480 * k
  | 0, _, q => by
    simp only [loadTo, List.getD, List.getElem?_replicate]
    split <;> simp
  | k + 1, hk, q => by
    have ih := loadTo_bound h k (by omega)
    have i1 := ih q
    have i2 := ih (a.getD k 0).toNat
    have g := (goodT_at h.f_good).2 k (by omega)
    simp only [loadTo]
    rw [getD_set_of]
    split <;> omega
theorem rep_zero (n : Nat) : List.replicate n (Value.int .i64 0) = (List.replicate n (0 : Int)).flatMap nmE := by
  induction n with
  | zero => rfl
  | succ n ih => rw [List.replicate_succ, List.replicate_succ, List.flatMap_cons, ← ih]; rfl
theorem nm_cell (s : List Int) {q : Nat} (hq : q < s.length) : List.take 1 (List.drop q (s.flatMap nmE)) = [.int .i64 (s.getD q 0)] := by
  have := flatMap_cells nmE 1 (fun _ => rfl) 0 s q hq
  rwa [Nat.mul_one] at this
theorem nm_set (s : List Int) (x : Int) {q : Nat} (hq : q < s.length) : (s.flatMap nmE).set q (.int .i64 x) = (s.set q x).flatMap nmE := by
  have := set_cell (f := nmE) (s := 1) (fun _ => rfl) x 0 hq (j := 0) (by omega) (v := .int .i64 x) rfl
  rwa [Nat.mul_one, Nat.add_zero] at this
theorem loadsOf_A (l : List Tk) (crews : Int) (a : List Int) (h : AsgAt l crews a) (c c2 : Nat) (H : Heap) (t u : Nat) (hS : Sl tkE H t l) (hU : Sl nmE H u a) :
    AFunC Try.prog 26 [.slice (some ⟨t, 0, none⟩) l.length c, .int .i64 crews, .slice (some ⟨u, 0, none⟩) a.length c2] H (.slice (some ⟨H.length, 0, none⟩) (loadTo l crews a a.length).length (loadTo l crews a a.length).length) (H ++ [some ⟨(loadTo l crews a a.length).flatMap nmE, true, 3, 1⟩]) := by
  refine AFunC.of_body Try.func26 (by kernel_rfl) rfl (by kernel_rfl) (by simp [Try.ntmps26]) ?_
  have ht := hS.lt
  have hu := hU.lt
  have h1 := h.f_crews
  have h12 := (goodT_at h.f_good).1
  have hal := h.f_len
  have cs := fun k hk => hU.one (g := fun n => Value.int .i64 n) 0 k hk
  have ct := fun k hk => hS.cell (s := 3) (fun _ => rfl) (0, 0, 0) k 2 hk (by omega)
  simp only [tkE] at ct
  have ll := loadTo_length l crews a
  rw [ll]
  simp -dsimp -implicitDefEqProofs (disch := omega) [go_sem, -List.getD_eq_getElem?_getD, ite_yes]
  refine ⟨by omega, ?_⟩
  refine ALoop.intro (ι := Nat) (fun k => k ≤ a.length) (fun k => [(0, .slice (some ⟨t, 0, none⟩) l.length c), (7, .slice (some ⟨H.length, 0, none⟩) crews.toNat crews.toNat), (12, .slice (some ⟨u, 0, none⟩) a.length c2), (13, .int .i64 a.length), (14, .int .i64 k)]) (fun k => H ++ [some ⟨(loadTo l crews a k).flatMap nmE, true, 3, 1⟩]) (fun k => a.length - k) 0 (by omega) ?_ ?_
  · refine weakS_mk [some 0] rfl ?_ (by simp -dsimp -implicitDefEqProofs (disch := omega) [go_sem, -List.getD_eq_getElem?_getD, ite_yes, ht, hu])
    simp -dsimp -implicitDefEqProofs (disch := omega) [go_sem, -List.getD_eq_getElem?_getD, ite_yes]
    exact .inl ⟨(rep_zero _).symm, by simp [flat]⟩
  · intro k hk
    by_cases hlt : k < a.length
    · have hin := h.f_in k hlt
      have ct' := ct k (by omega)
      have cs' := cs k hlt
      have lb := loadTo_bound h k (by omega) (a.getD k 0).toNat
      have g := (goodT_at h.f_good).2 k (by omega)
      obtain ⟨q, hq⟩ : ∃ q : Nat, a.getD k 0 = (q : Int) := ⟨(a.getD k 0).toNat, by omega⟩
      have hql : q < (loadTo l crews a k).length := by rw [ll]; omega
      have e : loadTo l crews a (k + 1) = (loadTo l crews a k).set q ((loadTo l crews a k).getD q 0 + (l.getD k (0, 0, 0)).2.2) := by
        simp only [loadTo, hq, Int.toNat_natCast]
      rw [hq] at cs' lb
      rw [Int.toNat_natCast] at lb
      have c1 := nm_cell (loadTo l crews a k) hql
      have c2 := nm_set (loadTo l crews a k) ((loadTo l crews a k).getD q 0 + (l.getD k (0, 0, 0)).2.2) hql
      have hfl : ((loadTo l crews a k).flatMap nmE).length = crews.toNat := by rw [nmE_length, ll]; omega
      have hqc : q < crews.toNat := by rw [← ll k]; exact hql
      have hqi : (q : Int) < crews := by omega
      have hqd : q + 1 ≤ crews.toNat := by omega
      have hkl : k < l.length := by omega
      simp -dsimp -implicitDefEqProofs (disch := omega) [go_sem, -List.getD_eq_getElem?_getD, ite_yes, hlt, ht, hu, cs']
      refine ADraw.any H (by kernel_rfl) (by first | exact SubH.refl | exact SubH.app | exact SubH.both (by simp [subL])) ?_
      refine AAny.takes (fuel := 4) (by kernel_rfl) (by kernel_rfl) [0, 1, 2, 4, 5, 6, 7, 8] (by kernel_rfl) (by kernel_rfl) ?_
      simp -dsimp -implicitDefEqProofs (disch := omega) [go_sem, -List.getD_eq_getElem?_getD, ite_yes, ht, hu, ct', hfl, c1, hqc, hqi, hqd, hkl]
      refine AAny.one 3 3 (by kernel_rfl) (by kernel_rfl) (by kernel_rfl) ?_
      simp -dsimp -implicitDefEqProofs (disch := omega) [go_sem, -List.getD_eq_getElem?_getD, ite_yes, ht, hu, ct', hfl, c1, hqc, hqi, hqd, hkl]
      first | refine AAt.of (by first | exact SubH.refl | exact SubH.app | exact SubH.both (by simp [subL])) ?_ | (refine ⟨?_, AAt.of (by first | exact SubH.refl | exact SubH.app | exact SubH.both (by simp [subL])) ?_⟩; · omega)
      refine AAny.takes (fuel := 1) (by kernel_rfl) (by kernel_rfl) [9, 10] (by kernel_rfl) (by kernel_rfl) ?_
      simp -dsimp -implicitDefEqProofs (disch := omega) [go_sem, -List.getD_eq_getElem?_getD, ite_yes, ht, hu, ct', hfl, c1, hqc, hqi, hqd, hkl]
      refine AAny.one 0 11 (by kernel_rfl) (by kernel_rfl) (by kernel_rfl) ?_
      simp -dsimp -implicitDefEqProofs (disch := omega) [go_sem, -List.getD_eq_getElem?_getD, ite_yes, ht, hu, ct', hfl, c1, hqc, hqi, hqd, hkl]
      first | refine AAt.of (by first | exact SubH.refl | exact SubH.app | exact SubH.both (by simp [subL])) ?_ | (refine ⟨?_, AAt.of (by first | exact SubH.refl | exact SubH.app | exact SubH.both (by simp [subL])) ?_⟩; · omega)
      refine AAny.done (by kernel_rfl) ?_
      simp -dsimp -implicitDefEqProofs (disch := omega) [go_sem, -List.getD_eq_getElem?_getD, ite_yes, ht, hu, ct', hfl, c1, hqc, hqi, hqd, hkl]
      refine LoopEnd.of (k + 1) (by omega) (by omega) (weakS_mk [some 0] rfl ?_ (by simp -dsimp -implicitDefEqProofs (disch := omega) [go_sem, -List.getD_eq_getElem?_getD, ite_yes, ht, hu]))
      simp -dsimp -implicitDefEqProofs (disch := omega) [go_sem, -List.getD_eq_getElem?_getD, ite_yes]
      exact .inl ⟨by rw [e]; exact c2.symm, (congrArg (fun x => List.all x flat) c2).trans (nmE_flat _)⟩
    · simp -dsimp -implicitDefEqProofs (disch := omega) [go_sem, -List.getD_eq_getElem?_getD, ite_yes, hlt]
      obtain rfl : k = a.length := by omega
      refine fin_list [some 0] rfl ?_ (by simp -dsimp -implicitDefEqProofs (disch := omega) [go_sem, -List.getD_eq_getElem?_getD, ite_yes])
      simp -dsimp -implicitDefEqProofs (disch := omega) [go_sem, -List.getD_eq_getElem?_getD, ite_yes]
      exact .inl ⟨rfl, nmE_flat _⟩
theorem l22Loads_A (l : List Tk) (crews : Int) (a : List Int) (h : AsgAt l crews a) (c c2 : Nat) (H : Heap) (t u : Nat) (hS : Sl tkE H t l) (hU : Sl nmE H u a) :
    AFunC Try.prog 28 [.slice (some ⟨t, 0, none⟩) l.length c, .int .i64 crews, .slice (some ⟨u, 0, none⟩) a.length c2] H (.slice (some ⟨H.length, 0, none⟩) (loadTo l crews a a.length).length (loadTo l crews a a.length).length) (H ++ [some ⟨(loadTo l crews a a.length).flatMap nmE, true, 3, 1⟩]) := by
  refine AFunC.of_body Try.func28 (by kernel_rfl) rfl (by kernel_rfl) (by simp [Try.ntmps28]) ?_
  have ht := hS.lt
  have hu := hU.lt
  have h1 := h.f_crews
  have h12 := (goodT_at h.f_good).1
  have hal := h.f_len
  have cs := fun k hk => hU.one (g := fun n => Value.int .i64 n) 0 k hk
  have ct := fun k hk => hS.cell (s := 3) (fun _ => rfl) (0, 0, 0) k 2 hk (by omega)
  simp only [tkE] at ct
  have ll := loadTo_length l crews a
  rw [ll]
  simp -dsimp -implicitDefEqProofs (disch := omega) [go_sem, -List.getD_eq_getElem?_getD, ite_yes]
  refine ⟨by omega, ?_⟩
  refine ALoop.intro (ι := Nat) (fun k => k ≤ a.length) (fun k => [(0, .slice (some ⟨t, 0, none⟩) l.length c), (2, .slice (some ⟨u, 0, none⟩) a.length c2), (7, .slice (some ⟨H.length, 0, none⟩) crews.toNat crews.toNat), (8, .int .i64 k)]) (fun k => H ++ [some ⟨(loadTo l crews a k).flatMap nmE, true, 3, 1⟩]) (fun k => a.length - k) 0 (by omega) ?_ ?_
  · refine weakS_mk [some 0] rfl ?_ (by simp -dsimp -implicitDefEqProofs (disch := omega) [go_sem, -List.getD_eq_getElem?_getD, ite_yes, ht, hu])
    simp -dsimp -implicitDefEqProofs (disch := omega) [go_sem, -List.getD_eq_getElem?_getD, ite_yes]
    exact .inl ⟨(rep_zero _).symm, by simp [flat]⟩
  · intro k hk
    by_cases hlt : k < a.length
    · have hin := h.f_in k hlt
      have ct' := ct k (by omega)
      have cs' := cs k hlt
      have lb := loadTo_bound h k (by omega) (a.getD k 0).toNat
      have g := (goodT_at h.f_good).2 k (by omega)
      obtain ⟨q, hq⟩ : ∃ q : Nat, a.getD k 0 = (q : Int) := ⟨(a.getD k 0).toNat, by omega⟩
      have hql : q < (loadTo l crews a k).length := by rw [ll]; omega
      have e : loadTo l crews a (k + 1) = (loadTo l crews a k).set q ((loadTo l crews a k).getD q 0 + (l.getD k (0, 0, 0)).2.2) := by
        simp only [loadTo, hq, Int.toNat_natCast]
      rw [hq] at cs' lb
      rw [Int.toNat_natCast] at lb
      have c1 := nm_cell (loadTo l crews a k) hql
      have c2 := nm_set (loadTo l crews a k) ((loadTo l crews a k).getD q 0 + (l.getD k (0, 0, 0)).2.2) hql
      have hfl : ((loadTo l crews a k).flatMap nmE).length = crews.toNat := by rw [nmE_length, ll]; omega
      have hqc : q < crews.toNat := by rw [← ll k]; exact hql
      have hqi : (q : Int) < crews := by omega
      have hqd : q + 1 ≤ crews.toNat := by omega
      have hkl : k < l.length := by omega
      simp -dsimp -implicitDefEqProofs (disch := omega) [go_sem, -List.getD_eq_getElem?_getD, ite_yes, hlt, ht, hu, cs']
      refine ADraw.any H (by kernel_rfl) (by first | exact SubH.refl | exact SubH.app | exact SubH.both (by simp [subL])) ?_
      refine AAny.takes (fuel := 4) (by kernel_rfl) (by kernel_rfl) [0, 1, 2, 3, 4, 6, 7, 8, 9, 10] (by kernel_rfl) (by kernel_rfl) ?_
      simp -dsimp -implicitDefEqProofs (disch := omega) [go_sem, -List.getD_eq_getElem?_getD, ite_yes, ht, hu, ct', hfl, c1, hqc, hqi, hqd, hkl]
      refine AAny.one 3 5 (by kernel_rfl) (by kernel_rfl) (by kernel_rfl) ?_
      simp -dsimp -implicitDefEqProofs (disch := omega) [go_sem, -List.getD_eq_getElem?_getD, ite_yes, ht, hu, ct', hfl, c1, hqc, hqi, hqd, hkl]
      first | refine AAt.of (by first | exact SubH.refl | exact SubH.app | exact SubH.both (by simp [subL])) ?_ | (refine ⟨?_, AAt.of (by first | exact SubH.refl | exact SubH.app | exact SubH.both (by simp [subL])) ?_⟩; · omega)
      refine AAny.takes (fuel := 1) (by kernel_rfl) (by kernel_rfl) [11, 12] (by kernel_rfl) (by kernel_rfl) ?_
      simp -dsimp -implicitDefEqProofs (disch := omega) [go_sem, -List.getD_eq_getElem?_getD, ite_yes, ht, hu, ct', hfl, c1, hqc, hqi, hqd, hkl]
      refine AAny.one 0 13 (by kernel_rfl) (by kernel_rfl) (by kernel_rfl) ?_
      simp -dsimp -implicitDefEqProofs (disch := omega) [go_sem, -List.getD_eq_getElem?_getD, ite_yes, ht, hu, ct', hfl, c1, hqc, hqi, hqd, hkl]
      first | refine AAt.of (by first | exact SubH.refl | exact SubH.app | exact SubH.both (by simp [subL])) ?_ | (refine ⟨?_, AAt.of (by first | exact SubH.refl | exact SubH.app | exact SubH.both (by simp [subL])) ?_⟩; · omega)
      refine AAny.done (by kernel_rfl) ?_
      simp -dsimp -implicitDefEqProofs (disch := omega) [go_sem, -List.getD_eq_getElem?_getD, ite_yes, ht, hu, ct', hfl, c1, hqc, hqi, hqd, hkl]
      refine LoopEnd.of (k + 1) (by omega) (by omega) (weakS_mk [some 0] rfl ?_ (by simp -dsimp -implicitDefEqProofs (disch := omega) [go_sem, -List.getD_eq_getElem?_getD, ite_yes, ht, hu]))
      simp -dsimp -implicitDefEqProofs (disch := omega) [go_sem, -List.getD_eq_getElem?_getD, ite_yes]
      exact .inl ⟨by rw [e]; exact c2.symm, (congrArg (fun x => List.all x flat) c2).trans (nmE_flat _)⟩
    · simp -dsimp -implicitDefEqProofs (disch := omega) [go_sem, -List.getD_eq_getElem?_getD, ite_yes, hlt]
      obtain rfl : k = a.length := by omega
      refine fin_list [some 0] rfl ?_ (by simp -dsimp -implicitDefEqProofs (disch := omega) [go_sem, -List.getD_eq_getElem?_getD, ite_yes])
      simp -dsimp -implicitDefEqProofs (disch := omega) [go_sem, -List.getD_eq_getElem?_getD, ite_yes]
      exact .inl ⟨rfl, nmE_flat _⟩
end Go.Proofs.Ythajahknincjjaa
