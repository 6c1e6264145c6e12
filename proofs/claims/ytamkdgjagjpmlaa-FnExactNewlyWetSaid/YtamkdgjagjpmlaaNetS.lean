/- Networks: the other side, and where a pipe or a valve is. -/
import Derived.Test.YtamkdgjagjpmlaaNet
namespace Go.Proofs.Ytamkdgjagjpmlaa
open Go.Am
set_option linter.unusedVariables false
set_option linter.unusedSimpArgs false
set_option maxRecDepth 100000
set_option maxHeartbeats 1000000

theorem l2Pipe_A (n : Int) (p : Pp) (H : Heap) : AFunC Try.prog 82 [.int .i64 n, .agg #[.int .i64 p.1, .int .i64 p.2.1, .int .i64 p.2.2.1, .int .i64 p.2.2.2]] H (.bool (isPp n p)) H := by
  refine AFunC.of_body Try.func82 (by kernel_rfl) rfl (by kernel_rfl) (by simp [Try.ntmps82]) ?_
  simp -dsimp -implicitDefEqProofs (disch := omega) [go_sem, -List.getD_eq_getElem?_getD, ite_yes]
  refine ACall.of (l1In_A _ _ _ _) ?_
  simp -dsimp -implicitDefEqProofs (disch := omega) [go_sem, -List.getD_eq_getElem?_getD, ite_yes]
  cases e1 : inB p.1 1 99
  · simp -dsimp -implicitDefEqProofs (disch := omega) [go_sem, -List.getD_eq_getElem?_getD, ite_yes]
    exact fin_flat rfl (by simp only [isPp, e1, Bool.false_and])
  simp -dsimp -implicitDefEqProofs (disch := omega) [go_sem, -List.getD_eq_getElem?_getD, ite_yes]
  refine ACall.of (l1In_A _ _ _ _) ?_
  simp -dsimp -implicitDefEqProofs (disch := omega) [go_sem, -List.getD_eq_getElem?_getD, ite_yes]
  cases e2 : inB p.2.1 1 n
  · simp -dsimp -implicitDefEqProofs (disch := omega) [go_sem, -List.getD_eq_getElem?_getD, ite_yes]
    exact fin_flat rfl (by simp only [isPp, e1, e2, Bool.false_and, Bool.and_false])
  simp -dsimp -implicitDefEqProofs (disch := omega) [go_sem, -List.getD_eq_getElem?_getD, ite_yes]
  refine ACall.of (l1In_A _ _ _ _) ?_
  simp -dsimp -implicitDefEqProofs (disch := omega) [go_sem, -List.getD_eq_getElem?_getD, ite_yes]
  cases e3 : inB p.2.2.1 1 n
  · simp -dsimp -implicitDefEqProofs (disch := omega) [go_sem, -List.getD_eq_getElem?_getD, ite_yes]
    exact fin_flat rfl (by simp only [isPp, e1, e2, e3, Bool.false_and, Bool.and_false])
  simp -dsimp -implicitDefEqProofs (disch := omega) [go_sem, -List.getD_eq_getElem?_getD, ite_yes]
  refine AIf.of (fun h => ?_) (fun h => ?_)
  · simp -dsimp -implicitDefEqProofs (disch := omega) [go_sem, -List.getD_eq_getElem?_getD, ite_yes]
    refine ACall.of (l1In_A _ _ _ _) ?_
    simp -dsimp -implicitDefEqProofs (disch := omega) [go_sem, -List.getD_eq_getElem?_getD, ite_yes]
    simp at h
    exact fin_flat rfl (by simp [isPp, e1, e2, e3, h])
  · simp -dsimp -implicitDefEqProofs (disch := omega) [go_sem, -List.getD_eq_getElem?_getD, ite_yes]
    simp at h
    exact fin_flat rfl (by simp [isPp, e1, e2, e3, h])
theorem l2Good_A (n : Int) (l : List Pp) (hl : l.length ≤ 1048577) (c : Nat) (H : Heap) (t : Nat) (hS : Sl ppE H t l) :
    AFunC Try.prog 60 [netV n t l.length c] H (.bool (goodN n l)) H := by
  refine AFunC.of_body Try.func60 (by kernel_rfl) rfl (by kernel_rfl) (by simp [Try.ntmps60]) ?_
  have ht := hS.lt
  have cs := fun k hk => hS.cells (s := 4) (fun _ => rfl) pp0 k hk
  have csk := fun k hk => hS.cell (s := 4) (fun _ => rfl) pp0 k 0 hk (by omega)
  simp only [Nat.add_zero, ppE] at csk cs
  simp -dsimp -implicitDefEqProofs (disch := omega) [go_sem, -List.getD_eq_getElem?_getD, ite_yes, ht]
  refine ALoop.intro (ι := Nat) (fun k => k ≤ l.length ∧ goodNTo n l k) (fun k => [(1, .pointer (some ⟨H.length, 0, none⟩)), (3, .int .i64 k)]) (fun _ => H ++ [some ⟨[.int .i64 n, .slice (some ⟨t, 0, none⟩) l.length c], true, 34, 1⟩]) (fun k => l.length - k) 0 ⟨by omega, ascTo_zero⟩ ?_ ?_
  · refine weakS_mk [some 0] rfl ?_ (by simp -dsimp -implicitDefEqProofs (disch := omega) [go_sem, -List.getD_eq_getElem?_getD, ite_yes, ht])
    simp -dsimp -implicitDefEqProofs (disch := omega) [go_sem, -List.getD_eq_getElem?_getD, ite_yes, ht]
    exact wl_net ht
  · rintro k ⟨hk, hg⟩
    by_cases hlt : k < l.length
    · by_cases h10 : k ≤ 10
      · have h10' : (k : Int) ≤ 10 := by omega
        simp -dsimp -implicitDefEqProofs (disch := omega) [go_sem, -List.getD_eq_getElem?_getD, ite_yes, hlt, h10', h10, cs, ht]
        refine ADraw.quiet (by kernel_rfl) (by kernel_rfl) (by kernel_rfl) ?_
        simp -dsimp -implicitDefEqProofs (disch := omega) [go_sem, -List.getD_eq_getElem?_getD, ite_yes, hlt, cs, csk, ht]
        refine ACallQ.of (l2Pipe_A n (l.getD k pp0) _) rfl ?_
        cases hk1 : isPp n (l.getD k pp0)
        · simp -dsimp -implicitDefEqProofs (disch := omega) [go_sem, -List.getD_eq_getElem?_getD, ite_yes]
          exact fin_flat rfl (by rw [goodN_no hlt (.inl hk1)])
        simp -dsimp -implicitDefEqProofs (disch := omega) [go_sem, -List.getD_eq_getElem?_getD, ite_yes, hlt, ht]
        refine AIf.of (fun h2 => ?_) (fun h2 => ?_)
        · simp at h2
          simp -dsimp -implicitDefEqProofs (disch := omega) [go_sem, -List.getD_eq_getElem?_getD, ite_yes, hlt, cs, csk, ht]
          refine AIf.of (fun h3 => ?_) (fun h3 => ?_)
          · simp -dsimp -implicitDefEqProofs (disch := omega) [go_sem, -List.getD_eq_getElem?_getD, ite_yes, hlt, cs, csk]
            exact fin_flat rfl (by rw [goodN_no hlt (.inr ⟨h2, by simpa [ppR] using h3⟩)])
          · simp -dsimp -implicitDefEqProofs (disch := omega) [go_sem, -List.getD_eq_getElem?_getD, ite_yes, hlt, cs, csk]
            refine LoopEnd.of (k + 1) ⟨by omega, hg.next hk1 fun _ => by simpa [ppR] using h3⟩ (by omega) (weakS_mk [some 0] rfl ?_ (by simp -dsimp -implicitDefEqProofs (disch := omega) [go_sem, -List.getD_eq_getElem?_getD, ite_yes, ht]))
            simp -dsimp -implicitDefEqProofs (disch := omega) [go_sem, -List.getD_eq_getElem?_getD, ite_yes, ht]
            exact wl_net ht
        · simp at h2
          simp -dsimp -implicitDefEqProofs (disch := omega) [go_sem, -List.getD_eq_getElem?_getD, ite_yes, hlt, cs, csk]
          refine LoopEnd.of (k + 1) ⟨by omega, hg.next hk1 fun h => by omega⟩ (by omega) (weakS_mk [some 0] rfl ?_ (by simp -dsimp -implicitDefEqProofs (disch := omega) [go_sem, -List.getD_eq_getElem?_getD, ite_yes, ht]))
          simp -dsimp -implicitDefEqProofs (disch := omega) [go_sem, -List.getD_eq_getElem?_getD, ite_yes, ht]
          exact wl_net ht
      · have h10' : ¬ (k : Int) ≤ 10 := by omega
        have h11 : ¬ (l.length : Int) ≤ 10 := by omega
        simp -dsimp -implicitDefEqProofs (disch := omega) [go_sem, -List.getD_eq_getElem?_getD, ite_yes, hlt, h10', h10, cs, ht]
        refine ACall.of (l1In_A _ _ _ _) ?_
        have e : goodN n l = false := by unfold goodN; rw [decide_eq_false (by omega), Bool.and_false, Bool.false_and]
        simp -dsimp -implicitDefEqProofs (disch := omega) [go_sem, -List.getD_eq_getElem?_getD, ite_yes, h11]
        refine AIf.of (fun h1 => ?_) (fun h1 => ?_)
        · simp -dsimp -implicitDefEqProofs (disch := omega) [go_sem, -List.getD_eq_getElem?_getD, ite_yes, h11]
          exact fin_flat rfl (by rw [e])
        · simp -dsimp -implicitDefEqProofs (disch := omega) [go_sem, -List.getD_eq_getElem?_getD, ite_yes]
          exact fin_flat rfl (by rw [e])
    · simp -dsimp -implicitDefEqProofs (disch := omega) [go_sem, -List.getD_eq_getElem?_getD, ite_yes, hlt]
      refine ACall.of (l1In_A _ _ _ _) ?_
      obtain rfl : k = l.length := by omega
      simp -dsimp -implicitDefEqProofs (disch := omega) [go_sem, -List.getD_eq_getElem?_getD, ite_yes]
      refine AIf.of (fun h1 => ?_) (fun h1 => ?_)
      · simp -dsimp -implicitDefEqProofs (disch := omega) [go_sem, -List.getD_eq_getElem?_getD, ite_yes]
        exact fin_flat rfl (by rw [goodN_end hg, h1, Bool.true_and]; congr 1; rw [decide_eq_decide]; omega)
      · simp -dsimp -implicitDefEqProofs (disch := omega) [go_sem, -List.getD_eq_getElem?_getD, ite_yes]
        exact fin_flat rfl (by rw [goodN_end hg, h1]; rfl)
theorem l2Node_A (n : Int) (l : List Pp) (hl : l.length ≤ 1048577) (c : Nat) (node : Int) (H : Heap) (t : Nat) (hS : Sl ppE H t l) :
    AFunC Try.prog 49 [netV n t l.length c, .int .i64 node] H (.bool (goodN n l && inB node 1 n)) H := by
  refine AFunC.of_body Try.func49 (by kernel_rfl) rfl (by kernel_rfl) (by simp [Try.ntmps49]) ?_
  have ht := hS.lt
  simp -dsimp -implicitDefEqProofs (disch := omega) [go_sem, -List.getD_eq_getElem?_getD, ite_yes, ht]
  refine ACall.of (l2Good_A n l hl c _ t hS.app) ?_
  simp -dsimp -implicitDefEqProofs (disch := omega) [go_sem, -List.getD_eq_getElem?_getD, ite_yes, ht]
  refine AIf.of (fun h1 => ?_) (fun h1 => ?_)
  · simp -dsimp -implicitDefEqProofs (disch := omega) [go_sem, -List.getD_eq_getElem?_getD, ite_yes, ht]
    refine ACall.of (l1In_A _ _ _ _) ?_
    simp -dsimp -implicitDefEqProofs (disch := omega) [go_sem, -List.getD_eq_getElem?_getD, ite_yes, ht]
    exact fin_flat rfl (by rw [h1, Bool.true_and])
  · simp -dsimp -implicitDefEqProofs (disch := omega) [go_sem, -List.getD_eq_getElem?_getD, ite_yes]
    exact fin_flat rfl (by rw [h1, Bool.false_and])
/-- the place of a pipe or a valve, or -1 -/
def ixOf {α : Type} (p : α → Bool) : List α → Int
  | [] => -1
  | a :: l => if p a then 0 else if ixOf p l < 0 then -1 else ixOf p l + 1
theorem found_ix {α : Type} (d : α) (p : α → Bool) : ∀ l : List α, Found d p l (ixOf p l)
  | [] => .no fun i hi => absurd hi (Nat.not_lt_zero _)
  | a :: l => by
    unfold ixOf
    by_cases ha : p a = true
    · rw [if_pos ha]
      exact .yes 0 (by simp) ha fun i hi => absurd hi (Nat.not_lt_zero _)
    · rw [if_neg ha]
      have h0 : p a = false := by simpa using ha
      have ih := found_ix d p l
      cases e : ixOf p l using Int.rec <;> rw [e] at ih
      · rename_i k
        rw [if_neg (by simp)]
        cases ih with
        | yes i h1 h2 h3 =>
          refine .yes (k + 1) (by simp; omega) h2 fun i hi => ?_
          cases i with
          | zero => exact h0
          | succ i => exact h3 i (by omega)
      · rename_i k
        rw [if_pos (by omega)]
        generalize hz : Int.negSucc k = z at ih
        cases ih with
        | yes i => omega
        | no h =>
          refine .no fun i hi => ?_
          cases i with
          | zero => exact h0
          | succ i => exact h i (by simpa using hi)
def pipeIs (id : Int) (p : Pp) : Bool := decide (p.1 = id)
def pipeIx (l : List Pp) (id : Int) : Int := ixOf (pipeIs id) l
theorem l2Find_A (n : Int) (l : List Pp) (hl : l.length ≤ 1048577) (c : Nat) (id : Int) (H : Heap) (t : Nat) (hS : Sl ppE H t l) :
    AFunC Try.prog 61 [netV n t l.length c, .int .i64 id] H (.int .i64 (pipeIx l id)) H := by
  refine AFunC.of_body Try.func61 (by kernel_rfl) rfl (by kernel_rfl) (by simp [Try.ntmps61]) ?_
  have ht := hS.lt
  have csk := fun k hk => hS.cell (s := 4) (fun _ => rfl) pp0 k 0 hk (by omega)
  simp only [Nat.add_zero, ppE] at csk
  simp -dsimp -implicitDefEqProofs (disch := omega) [go_sem, -List.getD_eq_getElem?_getD, ite_yes, ht]
  refine ALoop.intro (ι := Nat) (fun k => k ≤ l.length ∧ findTo pp0 (pipeIs id) l k) (fun k => [(1, .int .i64 id), (2, .pointer (some ⟨H.length, 0, none⟩)), (5, .int .i64 k)]) (fun _ => H ++ [some ⟨[.int .i64 n, .slice (some ⟨t, 0, none⟩) l.length c], true, 34, 1⟩]) (fun k => l.length - k) 0 ⟨by omega, fun i hi => by omega⟩ ?_ ?_
  · refine weakS_mk [some 0] rfl ?_ (by simp -dsimp -implicitDefEqProofs (disch := omega) [go_sem, -List.getD_eq_getElem?_getD, ite_yes, ht])
    simp -dsimp -implicitDefEqProofs (disch := omega) [go_sem, -List.getD_eq_getElem?_getD, ite_yes, ht]
    exact wl_net ht
  · rintro k ⟨hk, hf⟩
    by_cases hlt : k < l.length
    · simp -dsimp -implicitDefEqProofs (disch := omega) [go_sem, -List.getD_eq_getElem?_getD, ite_yes, hlt, csk, ht]
      refine AIf.of (fun h => ?_) (fun h => ?_)
      · simp -dsimp -implicitDefEqProofs (disch := omega) [go_sem, -List.getD_eq_getElem?_getD, ite_yes]
        exact fin_flat rfl (by rw [show pipeIx l id = k from found_uniq (found_ix pp0 _ l) (.yes k hlt h hf)])
      · simp -dsimp -implicitDefEqProofs (disch := omega) [go_sem, -List.getD_eq_getElem?_getD, ite_yes]
        refine LoopEnd.of (k + 1) ⟨by omega, hf.next h⟩ (by omega) (weakS_mk [some 0] rfl ?_ (by simp -dsimp -implicitDefEqProofs (disch := omega) [go_sem, -List.getD_eq_getElem?_getD, ite_yes, ht]))
        simp -dsimp -implicitDefEqProofs (disch := omega) [go_sem, -List.getD_eq_getElem?_getD, ite_yes, ht]
        exact wl_net ht
    · simp -dsimp -implicitDefEqProofs (disch := omega) [go_sem, -List.getD_eq_getElem?_getD, ite_yes, hlt]
      obtain rfl : k = l.length := by omega
      exact fin_flat rfl (by rw [show pipeIx l id = -1 from found_uniq (found_ix pp0 _ l) (.no hf)])
theorem indexFuncPp_A (l : List Pp) (p : Pp → Bool) (g : Nat) (cap : Array Value) (hl : l.length ≤ 1048577) (c : Nat) (H : Heap) (t : Nat) (hS : Sl ppE H t l) (hc : L2 (WMP (sg H.length []) H.length) cap.toList cap.toList)
    (hp : ∀ k, k < l.length → AFunC Try.prog g (.agg #[.int .i64 (l.getD k pp0).1, .int .i64 (l.getD k pp0).2.1, .int .i64 (l.getD k pp0).2.2.1, .int .i64 (l.getD k pp0).2.2.2] :: cap.toList) H (.bool (p (l.getD k pp0))) H) :
    AFunC Try.prog 83 [.slice (some ⟨t, 0, none⟩) l.length c, .func (.func g) #[] cap] H (.int .i64 (ixOf p l)) H := by
  refine AFunC.of_body Try.func83 (by kernel_rfl) rfl (by kernel_rfl) (by simp [Try.ntmps83]) ?_
  have ht := hS.lt
  have cs := fun k hk => hS.cells (s := 4) (fun _ => rfl) pp0 k hk
  simp only [ppE] at cs
  have hr := found_ix pp0 p l
  simp -dsimp -implicitDefEqProofs (disch := omega) [go_sem, -List.getD_eq_getElem?_getD, ite_yes]
  refine ALoop.intro (ι := Nat) (fun k => k ≤ l.length ∧ findTo pp0 p l k) (fun k => [(0, .slice (some ⟨t, 0, none⟩) l.length c), (1, .func (.func g) #[] cap), (7, .int .i64 l.length), (8, .int .i64 k)]) (fun _ => H) (fun k => l.length - k) 0 ⟨by omega, fun i hi => by omega⟩ ?_ ?_
  · exact weakS_same (by simp -dsimp -implicitDefEqProofs (disch := omega) [go_sem, -List.getD_eq_getElem?_getD, ite_yes, ht]; simpa using hc)
  · rintro k ⟨hk, hf⟩
    by_cases hlt : k < l.length
    · simp -dsimp -implicitDefEqProofs (disch := omega) [go_sem, -List.getD_eq_getElem?_getD, ite_yes, hlt, cs]
      refine ACall.of (hp k hlt) ?_
      simp -dsimp -implicitDefEqProofs (disch := omega) [go_sem, -List.getD_eq_getElem?_getD, ite_yes]
      refine AIf.of (fun h => ?_) (fun h => ?_)
      · simp -dsimp -implicitDefEqProofs (disch := omega) [go_sem, -List.getD_eq_getElem?_getD, ite_yes]
        have := found_uniq hr (.yes k hlt h hf)
        exact fin_flat0 rfl (by rw [this])
      · simp -dsimp -implicitDefEqProofs (disch := omega) [go_sem, -List.getD_eq_getElem?_getD, ite_yes]
        exact LoopEnd.of (k + 1) ⟨by omega, hf.next h⟩ (by omega) (weakS_same (by simp -dsimp -implicitDefEqProofs (disch := omega) [go_sem, -List.getD_eq_getElem?_getD, ite_yes, ht]; simpa using hc))
    · simp -dsimp -implicitDefEqProofs (disch := omega) [go_sem, -List.getD_eq_getElem?_getD, ite_yes, hlt]
      obtain rfl : k = l.length := by omega
      have := found_uniq hr (.no hf)
      exact fin_flat0 rfl (by rw [this])
theorem pipeIndex1_A (p : Pp) (id : Int) (H : Heap) (u : Nat) (hl : u < H.length) (hu : aCells H ⟨u, 0, none⟩ 1 = some [.int .i64 id]) : AFunC Try.prog 84 [.agg #[.int .i64 p.1, .int .i64 p.2.1, .int .i64 p.2.2.1, .int .i64 p.2.2.2], .pointer (some ⟨u, 0, none⟩)] H (.bool (pipeIs id p)) H := by
  refine AFunC.of_body Try.func84 (by kernel_rfl) rfl (by kernel_rfl) (by simp [Try.ntmps84]) ?_
  simp -dsimp -implicitDefEqProofs (disch := omega) [go_sem, -List.getD_eq_getElem?_getD, ite_yes, hu, hl]
  exact fin_flat rfl rfl
theorem pipeIndex_A (n : Int) (l : List Pp) (hl : l.length ≤ 1048577) (c : Nat) (id : Int) (H : Heap) (t : Nat) (hS : Sl ppE H t l) :
    AFunC Try.prog 66 [netV n t l.length c, .int .i64 id] H (.int .i64 (pipeIx l id)) H := by
  refine AFunC.of_body Try.func66 (by kernel_rfl) rfl (by kernel_rfl) (by simp [Try.ntmps66]) ?_
  have ht := hS.lt
  simp -dsimp -implicitDefEqProofs (disch := omega) [go_sem, -List.getD_eq_getElem?_getD, ite_yes, ht]
  refine ACall.of (indexFuncPp_A l (pipeIs id) _ _ hl c _ t hS.app ?_ fun k hk => pipeIndex1_A _ id _ _ ?_ ?_) ?_
  · simp -dsimp -implicitDefEqProofs (disch := omega) [go_sem, -List.getD_eq_getElem?_getD, ite_yes, ht]
  · simp
  · simp -dsimp -implicitDefEqProofs (disch := omega) [go_sem, -List.getD_eq_getElem?_getD, ite_yes, ht]
  simp -dsimp -implicitDefEqProofs (disch := omega) [go_sem, -List.getD_eq_getElem?_getD, ite_yes, ht]
  exact fin_flat rfl rfl
def otherOf (p : Pp) (node : Int) : Int := if node = p.2.1 then p.2.2.1 else if node = p.2.2.1 then p.2.1 else 0
theorem other_A (p : Pp) (node : Int) (H : Heap) : AFunC Try.prog 68 [.agg #[.int .i64 p.1, .int .i64 p.2.1, .int .i64 p.2.2.1, .int .i64 p.2.2.2], .int .i64 node] H (.int .i64 (otherOf p node)) H := by
  refine AFunC.of_body Try.func68 (by kernel_rfl) rfl (by kernel_rfl) (by simp [Try.ntmps68]) ?_
  simp -dsimp -implicitDefEqProofs (disch := omega) [go_sem, -List.getD_eq_getElem?_getD, ite_yes]
  by_cases h1 : node = p.2.1
  · simp -dsimp -implicitDefEqProofs (disch := omega) [go_sem, -List.getD_eq_getElem?_getD, ite_yes, h1]
    exact fin_flat rfl (by simp [otherOf])
  · simp -dsimp -implicitDefEqProofs (disch := omega) [go_sem, -List.getD_eq_getElem?_getD, ite_yes, h1]
    by_cases h2 : node = p.2.2.1
    · simp -dsimp -implicitDefEqProofs (disch := omega) [go_sem, -List.getD_eq_getElem?_getD, ite_yes, h2]
      exact fin_flat rfl (by simp [otherOf, h2] at *; simp [h1])
    · simp -dsimp -implicitDefEqProofs (disch := omega) [go_sem, -List.getD_eq_getElem?_getD, ite_yes, h2]
      exact fin_flat rfl (by simp [otherOf, h1, h2])
end Go.Proofs.Ytamkdgjagjpmlaa
