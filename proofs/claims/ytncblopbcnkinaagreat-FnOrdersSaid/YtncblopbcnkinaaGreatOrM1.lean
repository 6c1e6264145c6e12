/- NetS, Valves, Put, Has, SpreadS, SpreadW, Reached, Dry, Wet, Reopen, Still, in one text. -/
import Derived.Test.YtncblopbcnkinaaGreatNet
import Derived.Test.YtncblopbcnkinaaGreatRecNm
/- Networks: the other side, and where a pipe or a valve is. -/
namespace Go.Proofs.YtncblopbcnkinaaGreat
open Go.Am
set_option linter.unusedVariables false
set_option linter.unusedSimpArgs false
set_option maxRecDepth 100000
set_option maxHeartbeats 1000000

theorem l2Pipe_A (n : Int) (p : Pp) (H : Heap) : AFunC Tryz.prog 113 [.int .i64 n, .agg #[.int .i64 p.1, .int .i64 p.2.1, .int .i64 p.2.2.1, .int .i64 p.2.2.2]] H (.bool (isPp n p)) H := by
  refine AFunC.of_body Tryz.func113 (by kernel_rfl) rfl (by kernel_rfl) (by simp [Tryz.ntmps113]) ?_
  simp -dsimp -implicitDefEqProofs (disch := omega) [go_sem, -List.getD_eq_getElem?_getD, ite_yes]
  refine ACall.of (l1In_A _ _ _ _) ?_
  simp -dsimp -implicitDefEqProofs (disch := omega) [go_sem, -List.getD_eq_getElem?_getD, ite_yes]
  cases e1 : inB p.1 1 99
  · simp -dsimp -implicitDefEqProofs (disch := omega) [go_sem, -List.getD_eq_getElem?_getD, ite_yes]
    exact fin_flat rfl (by simp only [isPp, e1, Bool.false_and])
  simp -dsimp -implicitDefEqProofs (disch := omega) [go_sem, -List.getD_eq_getElem?_getD, ite_yes]
  refine ACall.of (l1In_A _ _ _ _) ?_
  simp -dsimp -implicitDefEqProofs (disch := omega) [go_sem, -List.getD_eq_getElem?_getD, ite_yes]
  cases e2 : inB p.2.1 1 n
  · simp -dsimp -implicitDefEqProofs (disch := omega) [go_sem, -List.getD_eq_getElem?_getD, ite_yes]
    exact fin_flat rfl (by simp only [isPp, e1, e2, Bool.false_and, Bool.and_false])
  simp -dsimp -implicitDefEqProofs (disch := omega) [go_sem, -List.getD_eq_getElem?_getD, ite_yes]
  refine ACall.of (l1In_A _ _ _ _) ?_
  simp -dsimp -implicitDefEqProofs (disch := omega) [go_sem, -List.getD_eq_getElem?_getD, ite_yes]
  cases e3 : inB p.2.2.1 1 n
  · simp -dsimp -implicitDefEqProofs (disch := omega) [go_sem, -List.getD_eq_getElem?_getD, ite_yes]
    exact fin_flat rfl (by simp only [isPp, e1, e2, e3, Bool.false_and, Bool.and_false])
  simp -dsimp -implicitDefEqProofs (disch := omega) [go_sem, -List.getD_eq_getElem?_getD, ite_yes]
  refine AIf.of (fun h => ?_) (fun h => ?_)
  · simp -dsimp -implicitDefEqProofs (disch := omega) [go_sem, -List.getD_eq_getElem?_getD, ite_yes]
    refine ACall.of (l1In_A _ _ _ _) ?_
    simp -dsimp -implicitDefEqProofs (disch := omega) [go_sem, -List.getD_eq_getElem?_getD, ite_yes]
    simp at h
    exact fin_flat rfl (by simp [isPp, e1, e2, e3, h])
  · simp -dsimp -implicitDefEqProofs (disch := omega) [go_sem, -List.getD_eq_getElem?_getD, ite_yes]
    simp at h
    exact fin_flat rfl (by simp [isPp, e1, e2, e3, h])
theorem l2Good_A (n : Int) (l : List Pp) (hl : l.length ≤ 1048577) (c : Nat) (H : Heap) (t : Nat) (hS : Sl ppE H t l) :
    AFunC Tryz.prog 100 [netV n t l.length c] H (.bool (goodN n l)) H := by
  refine AFunC.of_body Tryz.func100 (by kernel_rfl) rfl (by kernel_rfl) (by simp [Tryz.ntmps100]) ?_
  have ht := hS.lt
  have cs := fun k hk => hS.cells (s := 4) (fun _ => rfl) pp0 k hk
  have csk := fun k hk => hS.cell (s := 4) (fun _ => rfl) pp0 k 0 hk (by omega)
  simp only [Nat.add_zero, ppE] at csk cs
  simp -dsimp -implicitDefEqProofs (disch := omega) [go_sem, -List.getD_eq_getElem?_getD, ite_yes, ht]
  refine ALoop.intro (ι := Nat) (fun k => k ≤ l.length ∧ goodNTo n l k) (fun k => [(1, .pointer (some ⟨H.length, 0, none⟩)), (3, .int .i64 k)]) (fun _ => H ++ [some ⟨[.int .i64 n, .slice (some ⟨t, 0, none⟩) l.length c], true, 26, 1⟩]) (fun k => l.length - k) 0 ⟨by omega, ascTo_zero⟩ ?_ ?_
  · refine weakS_mk [some 0] rfl ?_ (by simp -dsimp -implicitDefEqProofs (disch := omega) [go_sem, -List.getD_eq_getElem?_getD, ite_yes, ht])
    simp -dsimp -implicitDefEqProofs (disch := omega) [go_sem, -List.getD_eq_getElem?_getD, ite_yes, ht]
    exact wl_net ht
  · rintro k ⟨hk, hg⟩
    by_cases hlt : k < l.length
    · by_cases h10 : k ≤ 10
      · have h10' : (k : Int) ≤ 10 := by omega
        simp -dsimp -implicitDefEqProofs (disch := omega) [go_sem, -List.getD_eq_getElem?_getD, ite_yes, hlt, h10', h10, cs, ht]
        refine ADraw.quiet (by kernel_rfl) (by kernel_rfl) (by kernel_rfl) ?_
        simp -dsimp -implicitDefEqProofs (disch := omega) [go_sem, -List.getD_eq_getElem?_getD, ite_yes, hlt, cs, csk, ht]
        refine ACallQ.of (l2Pipe_A n (l.getD k pp0) _) rfl ?_
        cases hk1 : isPp n (l.getD k pp0)
        · simp -dsimp -implicitDefEqProofs (disch := omega) [go_sem, -List.getD_eq_getElem?_getD, ite_yes]
          exact fin_flat rfl (by rw [goodN_no hlt (.inl hk1)])
        simp -dsimp -implicitDefEqProofs (disch := omega) [go_sem, -List.getD_eq_getElem?_getD, ite_yes, hlt, ht]
        refine AIf.of (fun h2 => ?_) (fun h2 => ?_)
        · simp at h2
          simp -dsimp -implicitDefEqProofs (disch := omega) [go_sem, -List.getD_eq_getElem?_getD, ite_yes, hlt, cs, csk, ht]
          refine AIf.of (fun h3 => ?_) (fun h3 => ?_)
          · simp -dsimp -implicitDefEqProofs (disch := omega) [go_sem, -List.getD_eq_getElem?_getD, ite_yes, hlt, cs, csk]
            exact fin_flat rfl (by rw [goodN_no hlt (.inr ⟨h2, by simpa [ppR] using h3⟩)])
          · simp -dsimp -implicitDefEqProofs (disch := omega) [go_sem, -List.getD_eq_getElem?_getD, ite_yes, hlt, cs, csk]
            refine LoopEnd.of (k + 1) ⟨by omega, hg.next hk1 fun _ => by simpa [ppR] using h3⟩ (by omega) (weakS_mk [some 0] rfl ?_ (by simp -dsimp -implicitDefEqProofs (disch := omega) [go_sem, -List.getD_eq_getElem?_getD, ite_yes, ht]))
            simp -dsimp -implicitDefEqProofs (disch := omega) [go_sem, -List.getD_eq_getElem?_getD, ite_yes, ht]
            exact wl_net ht
        · simp at h2
          simp -dsimp -implicitDefEqProofs (disch := omega) [go_sem, -List.getD_eq_getElem?_getD, ite_yes, hlt, cs, csk]
          refine LoopEnd.of (k + 1) ⟨by omega, hg.next hk1 fun h => by omega⟩ (by omega) (weakS_mk [some 0] rfl ?_ (by simp -dsimp -implicitDefEqProofs (disch := omega) [go_sem, -List.getD_eq_getElem?_getD, ite_yes, ht]))
          simp -dsimp -implicitDefEqProofs (disch := omega) [go_sem, -List.getD_eq_getElem?_getD, ite_yes, ht]
          exact wl_net ht
      · have h10' : ¬ (k : Int) ≤ 10 := by omega
        have h11 : ¬ (l.length : Int) ≤ 10 := by omega
        simp -dsimp -implicitDefEqProofs (disch := omega) [go_sem, -List.getD_eq_getElem?_getD, ite_yes, hlt, h10', h10, cs, ht]
        refine ACall.of (l1In_A _ _ _ _) ?_
        have e : goodN n l = false := by unfold goodN; rw [decide_eq_false (by omega), Bool.and_false, Bool.false_and]
        simp -dsimp -implicitDefEqProofs (disch := omega) [go_sem, -List.getD_eq_getElem?_getD, ite_yes, h11]
        refine AIf.of (fun h1 => ?_) (fun h1 => ?_)
        · simp -dsimp -implicitDefEqProofs (disch := omega) [go_sem, -List.getD_eq_getElem?_getD, ite_yes, h11]
          exact fin_flat rfl (by rw [e])
        · simp -dsimp -implicitDefEqProofs (disch := omega) [go_sem, -List.getD_eq_getElem?_getD, ite_yes]
          exact fin_flat rfl (by rw [e])
    · simp -dsimp -implicitDefEqProofs (disch := omega) [go_sem, -List.getD_eq_getElem?_getD, ite_yes, hlt]
      refine ACall.of (l1In_A _ _ _ _) ?_
      obtain rfl : k = l.length := by omega
      simp -dsimp -implicitDefEqProofs (disch := omega) [go_sem, -List.getD_eq_getElem?_getD, ite_yes]
      refine AIf.of (fun h1 => ?_) (fun h1 => ?_)
      · simp -dsimp -implicitDefEqProofs (disch := omega) [go_sem, -List.getD_eq_getElem?_getD, ite_yes]
        exact fin_flat rfl (by rw [goodN_end hg, h1, Bool.true_and]; congr 1; rw [decide_eq_decide]; omega)
      · simp -dsimp -implicitDefEqProofs (disch := omega) [go_sem, -List.getD_eq_getElem?_getD, ite_yes]
        exact fin_flat rfl (by rw [goodN_end hg, h1]; rfl)
theorem l2Node_A (n : Int) (l : List Pp) (hl : l.length ≤ 1048577) (c : Nat) (node : Int) (H : Heap) (t : Nat) (hS : Sl ppE H t l) :
    AFunC Tryz.prog 68 [netV n t l.length c, .int .i64 node] H (.bool (goodN n l && inB node 1 n)) H := by
  refine AFunC.of_body Tryz.func68 (by kernel_rfl) rfl (by kernel_rfl) (by simp [Tryz.ntmps68]) ?_
  have ht := hS.lt
  simp -dsimp -implicitDefEqProofs (disch := omega) [go_sem, -List.getD_eq_getElem?_getD, ite_yes, ht]
  refine ACall.of (l2Good_A n l hl c _ t hS.app) ?_
  simp -dsimp -implicitDefEqProofs (disch := omega) [go_sem, -List.getD_eq_getElem?_getD, ite_yes, ht]
  refine AIf.of (fun h1 => ?_) (fun h1 => ?_)
  · simp -dsimp -implicitDefEqProofs (disch := omega) [go_sem, -List.getD_eq_getElem?_getD, ite_yes, ht]
    refine ACall.of (l1In_A _ _ _ _) ?_
    simp -dsimp -implicitDefEqProofs (disch := omega) [go_sem, -List.getD_eq_getElem?_getD, ite_yes, ht]
    exact fin_flat rfl (by rw [h1, Bool.true_and])
  · simp -dsimp -implicitDefEqProofs (disch := omega) [go_sem, -List.getD_eq_getElem?_getD, ite_yes]
    exact fin_flat rfl (by rw [h1, Bool.false_and])
/-- the place of a pipe or a valve, or -1 -/
def ixOf {α : Type} (p : α → Bool) : List α → Int
  | [] => -1
  | a :: l => if p a then 0 else if ixOf p l < 0 then -1 else ixOf p l + 1
theorem found_ix {α : Type} (d : α) (p : α → Bool) : ∀ l : List α, Found d p l (ixOf p l)
  | [] => .no fun i hi => absurd hi (Nat.not_lt_zero _)
  | a :: l => by
    unfold ixOf
    by_cases ha : p a = true
    · rw [if_pos ha]
      exact .yes 0 (by simp) ha fun i hi => absurd hi (Nat.not_lt_zero _)
    · rw [if_neg ha]
      have h0 : p a = false := by simpa using ha
      have ih := found_ix d p l
      cases e : ixOf p l using Int.rec <;> rw [e] at ih
      · rename_i k
        rw [if_neg (by simp)]
        cases ih with
        | yes i h1 h2 h3 =>
          refine .yes (k + 1) (by simp; omega) h2 fun i hi => ?_
          cases i with
          | zero => exact h0
          | succ i => exact h3 i (by omega)
      · rename_i k
        rw [if_pos (by omega)]
        generalize hz : Int.negSucc k = z at ih
        cases ih with
        | yes i => omega
        | no h =>
          refine .no fun i hi => ?_
          cases i with
          | zero => exact h0
          | succ i => exact h i (by simpa using hi)
def pipeIs (id : Int) (p : Pp) : Bool := decide (p.1 = id)
def pipeIx (l : List Pp) (id : Int) : Int := ixOf (pipeIs id) l
theorem l2Find_A (n : Int) (l : List Pp) (hl : l.length ≤ 1048577) (c : Nat) (id : Int) (H : Heap) (t : Nat) (hS : Sl ppE H t l) :
    AFunC Tryz.prog 101 [netV n t l.length c, .int .i64 id] H (.int .i64 (pipeIx l id)) H := by
  refine AFunC.of_body Tryz.func101 (by kernel_rfl) rfl (by kernel_rfl) (by simp [Tryz.ntmps101]) ?_
  have ht := hS.lt
  have csk := fun k hk => hS.cell (s := 4) (fun _ => rfl) pp0 k 0 hk (by omega)
  simp only [Nat.add_zero, ppE] at csk
  simp -dsimp -implicitDefEqProofs (disch := omega) [go_sem, -List.getD_eq_getElem?_getD, ite_yes, ht]
  refine ALoop.intro (ι := Nat) (fun k => k ≤ l.length ∧ findTo pp0 (pipeIs id) l k) (fun k => [(1, .int .i64 id), (2, .pointer (some ⟨H.length, 0, none⟩)), (5, .int .i64 k)]) (fun _ => H ++ [some ⟨[.int .i64 n, .slice (some ⟨t, 0, none⟩) l.length c], true, 26, 1⟩]) (fun k => l.length - k) 0 ⟨by omega, fun i hi => by omega⟩ ?_ ?_
  · refine weakS_mk [some 0] rfl ?_ (by simp -dsimp -implicitDefEqProofs (disch := omega) [go_sem, -List.getD_eq_getElem?_getD, ite_yes, ht])
    simp -dsimp -implicitDefEqProofs (disch := omega) [go_sem, -List.getD_eq_getElem?_getD, ite_yes, ht]
    exact wl_net ht
  · rintro k ⟨hk, hf⟩
    by_cases hlt : k < l.length
    · simp -dsimp -implicitDefEqProofs (disch := omega) [go_sem, -List.getD_eq_getElem?_getD, ite_yes, hlt, csk, ht]
      refine AIf.of (fun h => ?_) (fun h => ?_)
      · simp -dsimp -implicitDefEqProofs (disch := omega) [go_sem, -List.getD_eq_getElem?_getD, ite_yes]
        exact fin_flat rfl (by rw [show pipeIx l id = k from found_uniq (found_ix pp0 _ l) (.yes k hlt h hf)])
      · simp -dsimp -implicitDefEqProofs (disch := omega) [go_sem, -List.getD_eq_getElem?_getD, ite_yes]
        refine LoopEnd.of (k + 1) ⟨by omega, hf.next h⟩ (by omega) (weakS_mk [some 0] rfl ?_ (by simp -dsimp -implicitDefEqProofs (disch := omega) [go_sem, -List.getD_eq_getElem?_getD, ite_yes, ht]))
        simp -dsimp -implicitDefEqProofs (disch := omega) [go_sem, -List.getD_eq_getElem?_getD, ite_yes, ht]
        exact wl_net ht
    · simp -dsimp -implicitDefEqProofs (disch := omega) [go_sem, -List.getD_eq_getElem?_getD, ite_yes, hlt]
      obtain rfl : k = l.length := by omega
      exact fin_flat rfl (by rw [show pipeIx l id = -1 from found_uniq (found_ix pp0 _ l) (.no hf)])
theorem indexFuncPp_A (l : List Pp) (p : Pp → Bool) (g : Nat) (cap : Array Value) (hl : l.length ≤ 1048577) (c : Nat) (H : Heap) (t : Nat) (hS : Sl ppE H t l) (hc : L2 (WMP (sg H.length []) H.length) cap.toList cap.toList)
    (hp : ∀ k, k < l.length → AFunC Tryz.prog g (.agg #[.int .i64 (l.getD k pp0).1, .int .i64 (l.getD k pp0).2.1, .int .i64 (l.getD k pp0).2.2.1, .int .i64 (l.getD k pp0).2.2.2] :: cap.toList) H (.bool (p (l.getD k pp0))) H) :
    AFunC Tryz.prog 104 [.slice (some ⟨t, 0, none⟩) l.length c, .func (.func g) #[] cap] H (.int .i64 (ixOf p l)) H := by
  refine AFunC.of_body Tryz.func104 (by kernel_rfl) rfl (by kernel_rfl) (by simp [Tryz.ntmps104]) ?_
  have ht := hS.lt
  have cs := fun k hk => hS.cells (s := 4) (fun _ => rfl) pp0 k hk
  simp only [ppE] at cs
  have hr := found_ix pp0 p l
  simp -dsimp -implicitDefEqProofs (disch := omega) [go_sem, -List.getD_eq_getElem?_getD, ite_yes]
  refine ALoop.intro (ι := Nat) (fun k => k ≤ l.length ∧ findTo pp0 p l k) (fun k => [(0, .slice (some ⟨t, 0, none⟩) l.length c), (1, .func (.func g) #[] cap), (7, .int .i64 l.length), (8, .int .i64 k)]) (fun _ => H) (fun k => l.length - k) 0 ⟨by omega, fun i hi => by omega⟩ ?_ ?_
  · exact weakS_same (by simp -dsimp -implicitDefEqProofs (disch := omega) [go_sem, -List.getD_eq_getElem?_getD, ite_yes, ht]; simpa using hc)
  · rintro k ⟨hk, hf⟩
    by_cases hlt : k < l.length
    · simp -dsimp -implicitDefEqProofs (disch := omega) [go_sem, -List.getD_eq_getElem?_getD, ite_yes, hlt, cs]
      refine ACall.of (hp k hlt) ?_
      simp -dsimp -implicitDefEqProofs (disch := omega) [go_sem, -List.getD_eq_getElem?_getD, ite_yes]
      refine AIf.of (fun h => ?_) (fun h => ?_)
      · simp -dsimp -implicitDefEqProofs (disch := omega) [go_sem, -List.getD_eq_getElem?_getD, ite_yes]
        have := found_uniq hr (.yes k hlt h hf)
        exact fin_flat0 rfl (by rw [this])
      · simp -dsimp -implicitDefEqProofs (disch := omega) [go_sem, -List.getD_eq_getElem?_getD, ite_yes]
        exact LoopEnd.of (k + 1) ⟨by omega, hf.next h⟩ (by omega) (weakS_same (by simp -dsimp -implicitDefEqProofs (disch := omega) [go_sem, -List.getD_eq_getElem?_getD, ite_yes, ht]; simpa using hc))
    · simp -dsimp -implicitDefEqProofs (disch := omega) [go_sem, -List.getD_eq_getElem?_getD, ite_yes, hlt]
      obtain rfl : k = l.length := by omega
      have := found_uniq hr (.no hf)
      exact fin_flat0 rfl (by rw [this])
theorem pipeIndex1_A (p : Pp) (id : Int) (H : Heap) (u : Nat) (hl : u < H.length) (hu : aCells H ⟨u, 0, none⟩ 1 = some [.int .i64 id]) : AFunC Tryz.prog 105 [.agg #[.int .i64 p.1, .int .i64 p.2.1, .int .i64 p.2.2.1, .int .i64 p.2.2.2], .pointer (some ⟨u, 0, none⟩)] H (.bool (pipeIs id p)) H := by
  refine AFunC.of_body Tryz.func105 (by kernel_rfl) rfl (by kernel_rfl) (by simp [Tryz.ntmps105]) ?_
  simp -dsimp -implicitDefEqProofs (disch := omega) [go_sem, -List.getD_eq_getElem?_getD, ite_yes, hu, hl]
  exact fin_flat rfl rfl
theorem pipeIndex_A (n : Int) (l : List Pp) (hl : l.length ≤ 1048577) (c : Nat) (id : Int) (H : Heap) (t : Nat) (hS : Sl ppE H t l) :
    AFunC Tryz.prog 76 [netV n t l.length c, .int .i64 id] H (.int .i64 (pipeIx l id)) H := by
  refine AFunC.of_body Tryz.func76 (by kernel_rfl) rfl (by kernel_rfl) (by simp [Tryz.ntmps76]) ?_
  have ht := hS.lt
  simp -dsimp -implicitDefEqProofs (disch := omega) [go_sem, -List.getD_eq_getElem?_getD, ite_yes, ht]
  refine ACall.of (indexFuncPp_A l (pipeIs id) _ _ hl c _ t hS.app ?_ fun k hk => pipeIndex1_A _ id _ _ ?_ ?_) ?_
  · simp -dsimp -implicitDefEqProofs (disch := omega) [go_sem, -List.getD_eq_getElem?_getD, ite_yes, ht]
  · simp
  · simp -dsimp -implicitDefEqProofs (disch := omega) [go_sem, -List.getD_eq_getElem?_getD, ite_yes, ht]
  simp -dsimp -implicitDefEqProofs (disch := omega) [go_sem, -List.getD_eq_getElem?_getD, ite_yes, ht]
  exact fin_flat rfl rfl
def otherOf (p : Pp) (node : Int) : Int := if node = p.2.1 then p.2.2.1 else if node = p.2.2.1 then p.2.1 else 0
theorem other_A (p : Pp) (node : Int) (H : Heap) : AFunC Tryz.prog 77 [.agg #[.int .i64 p.1, .int .i64 p.2.1, .int .i64 p.2.2.1, .int .i64 p.2.2.2], .int .i64 node] H (.int .i64 (otherOf p node)) H := by
  refine AFunC.of_body Tryz.func77 (by kernel_rfl) rfl (by kernel_rfl) (by simp [Tryz.ntmps77]) ?_
  simp -dsimp -implicitDefEqProofs (disch := omega) [go_sem, -List.getD_eq_getElem?_getD, ite_yes]
  by_cases h1 : node = p.2.1
  · simp -dsimp -implicitDefEqProofs (disch := omega) [go_sem, -List.getD_eq_getElem?_getD, ite_yes, h1]
    exact fin_flat rfl (by simp [otherOf])
  · simp -dsimp -implicitDefEqProofs (disch := omega) [go_sem, -List.getD_eq_getElem?_getD, ite_yes, h1]
    by_cases h2 : node = p.2.2.1
    · simp -dsimp -implicitDefEqProofs (disch := omega) [go_sem, -List.getD_eq_getElem?_getD, ite_yes, h2]
      exact fin_flat rfl (by simp [otherOf, h2] at *; simp [h1])
    · simp -dsimp -implicitDefEqProofs (disch := omega) [go_sem, -List.getD_eq_getElem?_getD, ite_yes, h2]
      exact fin_flat rfl (by simp [otherOf, h1, h2])
end Go.Proofs.YtncblopbcnkinaaGreat
/- Valves: what is valid, and where one is. -/
namespace Go.Proofs.YtncblopbcnkinaaGreat
open Go.Am
set_option linter.unusedVariables false
set_option linter.unusedSimpArgs false
set_option maxRecDepth 100000
set_option maxHeartbeats 2000000

theorem ix_cases {α : Type} (d : α) (p : α → Bool) (l : List α) : (ixOf p l = -1 ∧ ∀ i, i < l.length → p (l.getD i d) = false) ∨ ∃ q : Nat, ixOf p l = (q : Int) ∧ q < l.length ∧ p (l.getD q d) = true ∧ ∀ i, i < q → p (l.getD i d) = false := by
  have h := found_ix d p l
  generalize ixOf p l = r at *
  cases h with
  | yes i h1 h2 h3 => exact .inr ⟨i, rfl, h1, h2, h3⟩
  | no h => exact .inl ⟨rfl, h⟩
theorem getD_take' {α : Type} {l : List α} {i k : Nat} {d : α} (h : i < k) : (l.take k).getD i d = l.getD i d := by
  rw [List.getD_eq_getElem?_getD, List.getElem?_take_of_lt h, ← List.getD_eq_getElem?_getD]
/-- whether a pipe has a node as one of its ends -/
def onP (ps : List Pp) (id nd : Int) : Bool := decide (0 ≤ pipeIx ps id) && (decide ((ps.getD (pipeIx ps id).toNat pp0).2.1 = nd) || decide ((ps.getD (pipeIx ps id).toNat pp0).2.2.1 = nd))
def sameV (v x : Vl) : Bool := decide (x.2.1 = v.2.1) && decide (x.2.2.1 = v.2.2.1)
def twinV (l : List Vl) (i : Nat) : Bool := decide (0 ≤ ixOf (sameV (l.getD i vl0)) (l.take i))
def oneV (ps : List Pp) (l : List Vl) (i : Nat) : Bool := inB (l.getD i vl0).1 1 99 && (!(decide (0 < i) && decide ((l.getD i vl0).1 ≤ (l.getD (i - 1) vl0).1)) && (onP ps (l.getD i vl0).2.1 (l.getD i vl0).2.2.1 && !twinV l i))
def goodVTo (ps : List Pp) (l : List Vl) (k : Nat) : Prop := ∀ i, i < k → oneV ps l i = true
instance goodVTo_dec (ps : List Pp) (l : List Vl) (k : Nat) : Decidable (goodVTo ps l k) := by unfold goodVTo; infer_instance
def goodV (n : Int) (ps : List Pp) (l : List Vl) : Bool := goodN n ps && (decide (l.length ≤ 10) && decide (goodVTo ps l l.length))
theorem goodVTo.next {ps : List Pp} {l : List Vl} {k : Nat} (h : goodVTo ps l k) (h1 : oneV ps l k = true) : goodVTo ps l (k + 1) := by
  intro i hi
  rcases Nat.lt_or_ge i k with h' | h'
  · exact h i h'
  · obtain rfl : i = k := by omega
    exact h1
theorem goodV_no {n : Int} {ps : List Pp} {l : List Vl} {k : Nat} (hk : k < l.length) (h : oneV ps l k = false) : goodV n ps l = false := by
  unfold goodV
  rw [decide_eq_false (p := goodVTo ps l l.length) (fun h' => by have := h' k hk; rw [h] at this; cases this), Bool.and_false, Bool.and_false]
theorem goodV_end {n : Int} {ps : List Pp} {l : List Vl} (hn : goodN n ps = true) (hl : l.length ≤ 10) (h : goodVTo ps l l.length) : goodV n ps l = true := by
  unfold goodV
  rw [hn, decide_eq_true hl, decide_eq_true h]; rfl
theorem wl_vl {σ : Sig} {m : Nat} (v : Vl) : WL σ m [.int .i64 v.1, .int .i64 v.2.1, .int .i64 v.2.2.1, .bool v.2.2.2] [.int .i64 v.1, .int .i64 v.2.1, .int .i64 v.2.2.1, .bool v.2.2.2] := .inl ⟨rfl, rfl⟩

theorem indexFuncVl_A (l : List Vl) (p : Vl → Bool) (g : Nat) (cap : Array Value) (hl : l.length ≤ 1048577) (c : Nat) (H : Heap) (t : Nat) (hS : Sl vlE H t l) (hc : L2 (WMP (sg H.length []) H.length) cap.toList cap.toList)
    (hp : ∀ k, k < l.length → AFunC Tryz.prog g (.agg #[.int .i64 (l.getD k vl0).1, .int .i64 (l.getD k vl0).2.1, .int .i64 (l.getD k vl0).2.2.1, .bool (l.getD k vl0).2.2.2] :: cap.toList) H (.bool (p (l.getD k vl0))) H) :
    AFunC Tryz.prog 84 [.slice (some ⟨t, 0, none⟩) l.length c, .func (.func g) #[] cap] H (.int .i64 (ixOf p l)) H := by
  refine AFunC.of_body Tryz.func84 (by kernel_rfl) rfl (by kernel_rfl) (by simp [Tryz.ntmps84]) ?_
  have ht := hS.lt
  have cs := fun k hk => hS.cells (s := 4) (fun _ => rfl) vl0 k hk
  simp only [vlE] at cs
  have hr := found_ix vl0 p l
  simp -dsimp -implicitDefEqProofs (disch := omega) [go_sem, -List.getD_eq_getElem?_getD, ite_yes]
  refine ALoop.intro (ι := Nat) (fun k => k ≤ l.length ∧ findTo vl0 p l k) (fun k => [(0, .slice (some ⟨t, 0, none⟩) l.length c), (1, .func (.func g) #[] cap), (7, .int .i64 l.length), (8, .int .i64 k)]) (fun _ => H) (fun k => l.length - k) 0 ⟨by omega, fun i hi => by omega⟩ ?_ ?_
  · exact weakS_same (by simp -dsimp -implicitDefEqProofs (disch := omega) [go_sem, -List.getD_eq_getElem?_getD, ite_yes, ht]; simpa using hc)
  · rintro k ⟨hk, hf⟩
    by_cases hlt : k < l.length
    · simp -dsimp -implicitDefEqProofs (disch := omega) [go_sem, -List.getD_eq_getElem?_getD, ite_yes, hlt, cs]
      refine ACall.of (hp k hlt) ?_
      simp -dsimp -implicitDefEqProofs (disch := omega) [go_sem, -List.getD_eq_getElem?_getD, ite_yes]
      refine AIf.of (fun h => ?_) (fun h => ?_)
      · simp -dsimp -implicitDefEqProofs (disch := omega) [go_sem, -List.getD_eq_getElem?_getD, ite_yes]
        have := found_uniq hr (.yes k hlt h hf)
        exact fin_flat0 rfl (by rw [this])
      · simp -dsimp -implicitDefEqProofs (disch := omega) [go_sem, -List.getD_eq_getElem?_getD, ite_yes]
        exact LoopEnd.of (k + 1) ⟨by omega, hf.next h⟩ (by omega) (weakS_same (by simp -dsimp -implicitDefEqProofs (disch := omega) [go_sem, -List.getD_eq_getElem?_getD, ite_yes, ht]; simpa using hc))
    · simp -dsimp -implicitDefEqProofs (disch := omega) [go_sem, -List.getD_eq_getElem?_getD, ite_yes, hlt]
      obtain rfl : k = l.length := by omega
      have := found_uniq hr (.no hf)
      exact fin_flat0 rfl (by rw [this])
theorem containsFuncVl_A (l : List Vl) (p : Vl → Bool) (g : Nat) (cap : Array Value) (hl : l.length ≤ 1048577) (c : Nat) (H : Heap) (t : Nat) (hS : Sl vlE H t l) (hc : L2 (WMP (sg H.length []) H.length) cap.toList cap.toList)
    (hp : ∀ k, k < l.length → AFunC Tryz.prog g (.agg #[.int .i64 (l.getD k vl0).1, .int .i64 (l.getD k vl0).2.1, .int .i64 (l.getD k vl0).2.2.1, .bool (l.getD k vl0).2.2.2] :: cap.toList) H (.bool (p (l.getD k vl0))) H) :
    AFunC Tryz.prog 78 [.slice (some ⟨t, 0, none⟩) l.length c, .func (.func g) #[] cap] H (.bool (decide (0 ≤ ixOf p l))) H := by
  refine AFunC.of_body Tryz.func78 (by kernel_rfl) rfl (by kernel_rfl) (by simp [Tryz.ntmps78]) ?_
  simp -dsimp -implicitDefEqProofs (disch := omega) [go_sem, -List.getD_eq_getElem?_getD, ite_yes]
  refine ACall.of (indexFuncVl_A l p g cap hl c H t hS hc hp) ?_
  simp -dsimp -implicitDefEqProofs (disch := omega) [go_sem, -List.getD_eq_getElem?_getD, ite_yes]
  exact fin_flat0 rfl rfl
theorem validValves1_A (v x : Vl) (H : Heap) (u : Nat) (hl : u < H.length) (c1 : aCells H ⟨u, 1, none⟩ 1 = some [.int .i64 v.2.1]) (c2 : aCells H ⟨u, 2, none⟩ 1 = some [.int .i64 v.2.2.1]) :
    AFunC Tryz.prog 79 [.agg #[.int .i64 (x).1, .int .i64 (x).2.1, .int .i64 (x).2.2.1, .bool (x).2.2.2], .pointer (some ⟨u, 0, none⟩)] H (.bool (sameV v x)) H := by
  refine AFunC.of_body Tryz.func79 (by kernel_rfl) rfl (by kernel_rfl) (by simp [Tryz.ntmps79]) ?_
  simp -dsimp -implicitDefEqProofs (disch := omega) [go_sem, -List.getD_eq_getElem?_getD, ite_yes, c1, c2, hl]
  by_cases h1 : x.2.1 = v.2.1
  · simp -dsimp -implicitDefEqProofs (disch := omega) [go_sem, -List.getD_eq_getElem?_getD, ite_yes, h1, c1, c2, hl]
    exact fin_flat rfl (by simp [sameV, h1])
  · simp -dsimp -implicitDefEqProofs (disch := omega) [go_sem, -List.getD_eq_getElem?_getD, ite_yes, h1, c1, c2, hl]
    exact fin_flat rfl (by simp [sameV, h1])

theorem twinV_yes {l : List Vl} {m k : Nat} (hmk : m < k) (hml : m < l.length) (h : sameV (l.getD k vl0) (l.getD m vl0) = true) : twinV l k = true := by
  unfold twinV
  rcases ix_cases vl0 (sameV (l.getD k vl0)) (l.take k) with ⟨_, h2⟩ | ⟨q, h2, _⟩
  · have := h2 m (by rw [List.length_take]; omega)
    rw [getD_take' hmk, h] at this
    cases this
  · rw [h2]; exact decide_eq_true (by omega)
theorem twinV_no {l : List Vl} {k : Nat} (hk : k ≤ l.length) (h : findTo vl0 (sameV (l.getD k vl0)) l k) : twinV l k = false := by
  unfold twinV
  rcases ix_cases vl0 (sameV (l.getD k vl0)) (l.take k) with ⟨h2, _⟩ | ⟨q, h2, h3, h4, _⟩
  · rw [h2]; rfl
  · rw [List.length_take] at h3
    rw [getD_take' (by omega), h q (by omega)] at h4
    cases h4

theorem l4Good_A (n : Int) (ps : List Pp) (hps : ps.length ≤ 1048577) (cp : Nat) (l : List Vl) (hl : l.length ≤ 1048577) (c : Nat) (H : Heap) (tp t : Nat) (hP : Sl ppE H tp ps) (hS : Sl vlE H t l) :
    AFunC Tryz.prog 67 [netV n tp ps.length cp, .slice (some ⟨t, 0, none⟩) l.length c] H (.bool (goodV n ps l)) H := by
  refine AFunC.of_body Tryz.func67 (by kernel_rfl) rfl (by kernel_rfl) (by simp [Tryz.ntmps67]) ?_
  have ht := hS.lt
  have htp := hP.lt
  have cs := fun k hk => hS.cells (s := 4) (fun _ => rfl) vl0 k hk
  have csk := fun k hk => hS.cell (s := 4) (fun _ => rfl) vl0 k 0 hk (by omega)
  have cv1 := fun k hk => hS.cell (s := 4) (fun _ => rfl) vl0 k 1 hk (by omega)
  have cv2 := fun k hk => hS.cell (s := 4) (fun _ => rfl) vl0 k 2 hk (by omega)
  have cq := fun k hk => hP.cells (s := 4) (fun _ => rfl) pp0 k hk
  have cq1 := fun k hk => hP.cell (s := 4) (fun _ => rfl) pp0 k 1 hk (by omega)
  have cq2 := fun k hk => hP.cell (s := 4) (fun _ => rfl) pp0 k 2 hk (by omega)
  simp only [Nat.add_zero, vlE] at csk cs cv1 cv2
  simp only [Nat.add_zero, ppE] at cq cq1 cq2
  simp -dsimp -implicitDefEqProofs (disch := omega) [go_sem, -List.getD_eq_getElem?_getD, ite_yes, ht, htp]
  refine ACall.of (l2Good_A n ps hps cp _ tp hP.app) ?_
  cases hn : goodN n ps
  · simp -dsimp -implicitDefEqProofs (disch := omega) [go_sem, -List.getD_eq_getElem?_getD, ite_yes]
    exact fin_flat rfl (by rw [goodV, hn, Bool.false_and])
  have hN := NetAt.of hn
  simp -dsimp -implicitDefEqProofs (disch := omega) [go_sem, -List.getD_eq_getElem?_getD, ite_yes, ht, htp]
  refine AIf.of (fun h => ?_) (fun h10 => ?_)
  · simp -dsimp -implicitDefEqProofs (disch := omega) [go_sem, -List.getD_eq_getElem?_getD, ite_yes]
    exact fin_flat rfl (by simp at h; rw [goodV, hn, decide_eq_false (by omega)]; rfl)
  simp at h10
  have h10 : l.length ≤ 10 := by omega
  simp -dsimp -implicitDefEqProofs (disch := omega) [go_sem, -List.getD_eq_getElem?_getD, ite_yes, ht, htp]
  refine ALoop.intro (ι := Nat) (fun k => k ≤ l.length ∧ goodVTo ps l k) (fun k => [(1, .slice (some ⟨t, 0, none⟩) l.length c), (2, .pointer (some ⟨H.length, 0, none⟩)), (5, .int .i64 k)]) (fun _ => H ++ [some ⟨[.int .i64 n, .slice (some ⟨tp, 0, none⟩) ps.length cp], true, 26, 1⟩]) (fun k => l.length - k) 0 ⟨by omega, fun i hi => by omega⟩ ?_ ?_
  · refine weakS_mk [some 0] rfl ?_ (by simp -dsimp -implicitDefEqProofs (disch := omega) [go_sem, -List.getD_eq_getElem?_getD, ite_yes, ht, htp])
    simp -dsimp -implicitDefEqProofs (disch := omega) [go_sem, -List.getD_eq_getElem?_getD, ite_yes, ht, htp]
    exact wl_net htp
  rintro k ⟨hk, hg⟩
  by_cases hlt : k < l.length
  rotate_left
  · simp -dsimp -implicitDefEqProofs (disch := omega) [go_sem, -List.getD_eq_getElem?_getD, ite_yes, hlt]
    obtain rfl : k = l.length := by omega
    exact fin_flat rfl (by rw [goodV_end hn h10 hg])
  simp -dsimp -implicitDefEqProofs (disch := omega) [go_sem, -List.getD_eq_getElem?_getD, ite_yes, hlt, cs, ht, htp]
  refine ACall.of (l2Find_A n ps hps cp (l.getD k vl0).2.1 _ tp hP.app) ?_
  have hix := ix_cases pp0 (pipeIs (l.getD k vl0).2.1) ps
  rw [show ixOf (pipeIs (l.getD k vl0).2.1) ps = pipeIx ps (l.getD k vl0).2.1 from rfl] at hix
  have hon : onP ps (l.getD k vl0).2.1 (l.getD k vl0).2.2.1 = (decide (0 ≤ pipeIx ps (l.getD k vl0).2.1) && (decide ((ps.getD (pipeIx ps (l.getD k vl0).2.1).toNat pp0).2.1 = (l.getD k vl0).2.2.1) || decide ((ps.getD (pipeIx ps (l.getD k vl0).2.1).toNat pp0).2.2.1 = (l.getD k vl0).2.2.1))) := rfl
  generalize pipeIx ps (l.getD k vl0).2.1 = ix at *
  simp -dsimp -implicitDefEqProofs (disch := omega) [go_sem, -List.getD_eq_getElem?_getD, ite_yes, hlt, cs, ht, htp]
  refine ADraw.quiet (by kernel_rfl) (by kernel_rfl) (by kernel_rfl) ?_
  simp -dsimp -implicitDefEqProofs (disch := omega) [go_sem, -List.getD_eq_getElem?_getD, ite_yes, hlt, cs, csk, ht, htp]
  refine ACallQ.of (l1In_A (l.getD k vl0).1 1 99 _) rfl ?_
  cases e1 : inB (l.getD k vl0).1 1 99
  · simp -dsimp -implicitDefEqProofs (disch := omega) [go_sem, -List.getD_eq_getElem?_getD, ite_yes]
    exact fin_flat rfl (by rw [goodV_no hlt (by simp only [oneV, e1, Bool.false_and])])
  simp -dsimp -implicitDefEqProofs (disch := omega) [go_sem, -List.getD_eq_getElem?_getD, ite_yes, hlt, cs, csk, ht, htp]
  refine AIf.of (fun h2 => ?_) (fun h2 => ?_)
  · simp at h2
    simp -dsimp -implicitDefEqProofs (disch := omega) [go_sem, -List.getD_eq_getElem?_getD, ite_yes, hlt, cs, csk, ht, htp]
    refine AIf.of (fun h3 => ?_) (fun h3 => ?_)
    · simp -dsimp -implicitDefEqProofs (disch := omega) [go_sem, -List.getD_eq_getElem?_getD, ite_yes, hlt, cs, csk]
      exact fin_flat rfl (by rw [goodV_no hlt (by simp [-List.getD_eq_getElem?_getD] at h3; simp only [oneV]; rw [decide_eq_true h2, decide_eq_true h3]; simp)])
    · simp [-List.getD_eq_getElem?_getD] at h3
      have hb : (decide (0 < k) && decide ((l.getD k vl0).1 ≤ (l.getD (k - 1) vl0).1)) = false := by rw [decide_eq_false (show ¬ (l.getD k vl0).1 ≤ (l.getD (k - 1) vl0).1 by omega), Bool.and_false]
      simp -dsimp -implicitDefEqProofs (disch := omega) [go_sem, -List.getD_eq_getElem?_getD, ite_yes, hlt, cs, csk, ht, htp]
      rcases hix with ⟨hi, _⟩ | ⟨q, hi, hq, _, _⟩
      · subst hi
        simp -dsimp -implicitDefEqProofs (disch := omega) [go_sem, -List.getD_eq_getElem?_getD, ite_yes, hlt, cs, csk, ht, htp]
        exact fin_flat rfl (by rw [goodV_no hlt (by rw [oneV, hon]; simp)])
      subst hi
      have hqn : ¬ (q : Int) < 0 := by omega
      have hend := hN.f_end q hq
      simp only [Int.toNat_natCast] at hon
      obtain ⟨p, hp⟩ : ∃ p, ps.getD q pp0 = p := ⟨_, rfl⟩
      simp only [hp] at hon hend
      have cq0 := cq q hq
      have cq10 := cq1 q hq
      have cq20 := cq2 q hq
      rw [hp] at cq0 cq10 cq20
      have c1 := cv1 k hlt
      have c2 := cv2 k hlt
      by_cases h1 : p.2.1 = (l.getD k vl0).2.2.1
      · have hon1 : onP ps (l.getD k vl0).2.1 (l.getD k vl0).2.2.1 = true := by rw [hon, decide_eq_true (by omega), decide_eq_true h1]; rfl
        simp -dsimp -implicitDefEqProofs (disch := omega) [go_sem, -List.getD_eq_getElem?_getD, ite_yes, hlt, cs, csk, ht, htp, hqn, hq, h1, cq10, cq20]
        refine ALoop.intro (ι := Nat) (fun m => m ≤ k ∧ findTo vl0 (sameV (l.getD k vl0)) l m) (fun m => [(1, .slice (some ⟨t, 0, none⟩) l.length c), (2, .pointer (some ⟨H.length, 0, none⟩)), (5, .int .i64 k), (6, .pointer (some ⟨H.length + 1, 0, none⟩)), (8, .int .i64 m)]) (fun _ => H ++ [some ⟨[.int .i64 n, .slice (some ⟨tp, 0, none⟩) ps.length cp], true, 26, 1⟩, some ⟨[.int .i64 (l.getD k vl0).1, .int .i64 (l.getD k vl0).2.1, .int .i64 (l.getD k vl0).2.2.1, .bool (l.getD k vl0).2.2.2], true, 71, 1⟩]) (fun m => k - m) 0 ⟨by omega, fun i hi => by omega⟩ ?_ ?_
        · refine weakS_mk [some 0, some 1] rfl ?_ (by simp -dsimp -implicitDefEqProofs (disch := omega) [go_sem, -List.getD_eq_getElem?_getD, ite_yes, ht, htp])
          simp -dsimp -implicitDefEqProofs (disch := omega) [go_sem, -List.getD_eq_getElem?_getD, ite_yes, ht, htp]
          exact ⟨wl_net htp, wl_vl _⟩
        rintro m ⟨hm, hf⟩
        by_cases hmk : m < k
        · have hmk' : (m : Int) < (k : Int) := by omega
          have hml : m < l.length := by omega
          have d1 := cv1 m hml
          have d2 := cv2 m hml
          simp -dsimp -implicitDefEqProofs (disch := omega) [go_sem, -List.getD_eq_getElem?_getD, ite_yes, hmk, hmk', hml, d1, d2, ht, htp]
          refine ADraw.quiet (by kernel_rfl) (by kernel_rfl) (by kernel_rfl) ?_
          simp -dsimp -implicitDefEqProofs (disch := omega) [go_sem, -List.getD_eq_getElem?_getD, ite_yes, hmk, hmk', hml, d1, d2, ht, htp]
          by_cases h4 : (l.getD m vl0).2.1 = (l.getD k vl0).2.1
          · by_cases h5 : (l.getD m vl0).2.2.1 = (l.getD k vl0).2.2.1
            · simp -dsimp -implicitDefEqProofs (disch := omega) [go_sem, -List.getD_eq_getElem?_getD, ite_yes, hmk, hml, h4, h5, d1, d2, ht, htp]
              exact fin_flat rfl (by rw [goodV_no hlt (by rw [oneV, twinV_yes hmk hml (by simp only [sameV, decide_eq_true h4, decide_eq_true h5, Bool.and_self])]; simp)])
            · simp -dsimp -implicitDefEqProofs (disch := omega) [go_sem, -List.getD_eq_getElem?_getD, ite_yes, hmk, hml, h4, h5, d1, d2, ht, htp]
              refine LoopEnd.of (m + 1) ⟨by omega, hf.next (by simp only [sameV, decide_eq_false h5, Bool.and_false])⟩ (by omega) (weakS_mk [some 0, some 1] rfl ?_ (by simp -dsimp -implicitDefEqProofs (disch := omega) [go_sem, -List.getD_eq_getElem?_getD, ite_yes, ht, htp]))
              simp -dsimp -implicitDefEqProofs (disch := omega) [go_sem, -List.getD_eq_getElem?_getD, ite_yes, ht, htp]
              exact ⟨wl_net htp, wl_vl _⟩
          · simp -dsimp -implicitDefEqProofs (disch := omega) [go_sem, -List.getD_eq_getElem?_getD, ite_yes, hmk, hml, h4, d1, d2, ht, htp]
            refine LoopEnd.of (m + 1) ⟨by omega, hf.next (by simp only [sameV, decide_eq_false h4, Bool.false_and])⟩ (by omega) (weakS_mk [some 0, some 1] rfl ?_ (by simp -dsimp -implicitDefEqProofs (disch := omega) [go_sem, -List.getD_eq_getElem?_getD, ite_yes, ht, htp]))
            simp -dsimp -implicitDefEqProofs (disch := omega) [go_sem, -List.getD_eq_getElem?_getD, ite_yes, ht, htp]
            exact ⟨wl_net htp, wl_vl _⟩
        · have hmk' : ¬ (m : Int) < (k : Int) := by omega
          obtain rfl : m = k := by omega
          simp -dsimp -implicitDefEqProofs (disch := omega) [go_sem, -List.getD_eq_getElem?_getD, ite_yes, hmk]
          refine LoopEnd.of (m + 1) ⟨by omega, hg.next (by rw [oneV, e1, hb, hon1, twinV_no (by omega) hf]; rfl)⟩ (by omega) (weakS_mk [some 0] rfl ?_ (by simp -dsimp -implicitDefEqProofs (disch := omega) [go_sem, -List.getD_eq_getElem?_getD, ite_yes, ht, htp]))
          simp -dsimp -implicitDefEqProofs (disch := omega) [go_sem, -List.getD_eq_getElem?_getD, ite_yes, ht]
          exact wl_net htp
      · by_cases h2 : p.2.2.1 = (l.getD k vl0).2.2.1
        · have hon1 : onP ps (l.getD k vl0).2.1 (l.getD k vl0).2.2.1 = true := by rw [hon, decide_eq_true (by omega), decide_eq_true h2]; simp
          simp -dsimp -implicitDefEqProofs (disch := omega) [go_sem, -List.getD_eq_getElem?_getD, ite_yes, hlt, cs, csk, ht, htp, hqn, hq, h1, h2, cq10, cq20]
          refine ALoop.intro (ι := Nat) (fun m => m ≤ k ∧ findTo vl0 (sameV (l.getD k vl0)) l m) (fun m => [(1, .slice (some ⟨t, 0, none⟩) l.length c), (2, .pointer (some ⟨H.length, 0, none⟩)), (5, .int .i64 k), (6, .pointer (some ⟨H.length + 1, 0, none⟩)), (8, .int .i64 m)]) (fun _ => H ++ [some ⟨[.int .i64 n, .slice (some ⟨tp, 0, none⟩) ps.length cp], true, 26, 1⟩, some ⟨[.int .i64 (l.getD k vl0).1, .int .i64 (l.getD k vl0).2.1, .int .i64 (l.getD k vl0).2.2.1, .bool (l.getD k vl0).2.2.2], true, 71, 1⟩]) (fun m => k - m) 0 ⟨by omega, fun i hi => by omega⟩ ?_ ?_
          · refine weakS_mk [some 0, some 1] rfl ?_ (by simp -dsimp -implicitDefEqProofs (disch := omega) [go_sem, -List.getD_eq_getElem?_getD, ite_yes, ht, htp])
            simp -dsimp -implicitDefEqProofs (disch := omega) [go_sem, -List.getD_eq_getElem?_getD, ite_yes, ht, htp]
            exact ⟨wl_net htp, wl_vl _⟩
          rintro m ⟨hm, hf⟩
          by_cases hmk : m < k
          · have hmk' : (m : Int) < (k : Int) := by omega
            have hml : m < l.length := by omega
            have d1 := cv1 m hml
            have d2 := cv2 m hml
            simp -dsimp -implicitDefEqProofs (disch := omega) [go_sem, -List.getD_eq_getElem?_getD, ite_yes, hmk, hmk', hml, d1, d2, ht, htp]
            refine ADraw.quiet (by kernel_rfl) (by kernel_rfl) (by kernel_rfl) ?_
            simp -dsimp -implicitDefEqProofs (disch := omega) [go_sem, -List.getD_eq_getElem?_getD, ite_yes, hmk, hmk', hml, d1, d2, ht, htp]
            by_cases h4 : (l.getD m vl0).2.1 = (l.getD k vl0).2.1
            · by_cases h5 : (l.getD m vl0).2.2.1 = (l.getD k vl0).2.2.1
              · simp -dsimp -implicitDefEqProofs (disch := omega) [go_sem, -List.getD_eq_getElem?_getD, ite_yes, hmk, hml, h4, h5, d1, d2, ht, htp]
                exact fin_flat rfl (by rw [goodV_no hlt (by rw [oneV, twinV_yes hmk hml (by simp only [sameV, decide_eq_true h4, decide_eq_true h5, Bool.and_self])]; simp)])
              · simp -dsimp -implicitDefEqProofs (disch := omega) [go_sem, -List.getD_eq_getElem?_getD, ite_yes, hmk, hml, h4, h5, d1, d2, ht, htp]
                refine LoopEnd.of (m + 1) ⟨by omega, hf.next (by simp only [sameV, decide_eq_false h5, Bool.and_false])⟩ (by omega) (weakS_mk [some 0, some 1] rfl ?_ (by simp -dsimp -implicitDefEqProofs (disch := omega) [go_sem, -List.getD_eq_getElem?_getD, ite_yes, ht, htp]))
                simp -dsimp -implicitDefEqProofs (disch := omega) [go_sem, -List.getD_eq_getElem?_getD, ite_yes, ht, htp]
                exact ⟨wl_net htp, wl_vl _⟩
            · simp -dsimp -implicitDefEqProofs (disch := omega) [go_sem, -List.getD_eq_getElem?_getD, ite_yes, hmk, hml, h4, d1, d2, ht, htp]
              refine LoopEnd.of (m + 1) ⟨by omega, hf.next (by simp only [sameV, decide_eq_false h4, Bool.false_and])⟩ (by omega) (weakS_mk [some 0, some 1] rfl ?_ (by simp -dsimp -implicitDefEqProofs (disch := omega) [go_sem, -List.getD_eq_getElem?_getD, ite_yes, ht, htp]))
              simp -dsimp -implicitDefEqProofs (disch := omega) [go_sem, -List.getD_eq_getElem?_getD, ite_yes, ht, htp]
              exact ⟨wl_net htp, wl_vl _⟩
          · have hmk' : ¬ (m : Int) < (k : Int) := by omega
            obtain rfl : m = k := by omega
            simp -dsimp -implicitDefEqProofs (disch := omega) [go_sem, -List.getD_eq_getElem?_getD, ite_yes, hmk]
            refine LoopEnd.of (m + 1) ⟨by omega, hg.next (by rw [oneV, e1, hb, hon1, twinV_no (by omega) hf]; rfl)⟩ (by omega) (weakS_mk [some 0] rfl ?_ (by simp -dsimp -implicitDefEqProofs (disch := omega) [go_sem, -List.getD_eq_getElem?_getD, ite_yes, ht, htp]))
            simp -dsimp -implicitDefEqProofs (disch := omega) [go_sem, -List.getD_eq_getElem?_getD, ite_yes, ht]
            exact wl_net htp
        · simp -dsimp -implicitDefEqProofs (disch := omega) [go_sem, -List.getD_eq_getElem?_getD, ite_yes, hlt, cs, csk, ht, htp, hqn, hq, h1, h2, cq10, cq20]
          exact fin_flat rfl (by rw [goodV_no hlt (by simp only [oneV, hon]; rw [decide_eq_false h1, decide_eq_false h2]; simp)])
  · simp at h2
    have hb : (decide (0 < k) && decide ((l.getD k vl0).1 ≤ (l.getD (k - 1) vl0).1)) = false := by rw [decide_eq_false (show ¬ 0 < k by omega), Bool.false_and]
    simp -dsimp -implicitDefEqProofs (disch := omega) [go_sem, -List.getD_eq_getElem?_getD, ite_yes, hlt, cs, csk, ht, htp]
    rcases hix with ⟨hi, _⟩ | ⟨q, hi, hq, _, _⟩
    · subst hi
      simp -dsimp -implicitDefEqProofs (disch := omega) [go_sem, -List.getD_eq_getElem?_getD, ite_yes, hlt, cs, csk, ht, htp]
      exact fin_flat rfl (by rw [goodV_no hlt (by rw [oneV, hon]; simp)])
    subst hi
    have hqn : ¬ (q : Int) < 0 := by omega
    have hend := hN.f_end q hq
    simp only [Int.toNat_natCast] at hon
    obtain ⟨p, hp⟩ : ∃ p, ps.getD q pp0 = p := ⟨_, rfl⟩
    simp only [hp] at hon hend
    have cq0 := cq q hq
    have cq10 := cq1 q hq
    have cq20 := cq2 q hq
    rw [hp] at cq0 cq10 cq20
    have c1 := cv1 k hlt
    have c2 := cv2 k hlt
    by_cases h1 : p.2.1 = (l.getD k vl0).2.2.1
    · have hon1 : onP ps (l.getD k vl0).2.1 (l.getD k vl0).2.2.1 = true := by rw [hon, decide_eq_true (by omega), decide_eq_true h1]; rfl
      simp -dsimp -implicitDefEqProofs (disch := omega) [go_sem, -List.getD_eq_getElem?_getD, ite_yes, hlt, cs, csk, ht, htp, hqn, hq, h1, cq10, cq20]
      refine ALoop.intro (ι := Nat) (fun m => m ≤ k ∧ findTo vl0 (sameV (l.getD k vl0)) l m) (fun m => [(1, .slice (some ⟨t, 0, none⟩) l.length c), (2, .pointer (some ⟨H.length, 0, none⟩)), (5, .int .i64 k), (6, .pointer (some ⟨H.length + 1, 0, none⟩)), (8, .int .i64 m)]) (fun _ => H ++ [some ⟨[.int .i64 n, .slice (some ⟨tp, 0, none⟩) ps.length cp], true, 26, 1⟩, some ⟨[.int .i64 (l.getD k vl0).1, .int .i64 (l.getD k vl0).2.1, .int .i64 (l.getD k vl0).2.2.1, .bool (l.getD k vl0).2.2.2], true, 71, 1⟩]) (fun m => k - m) 0 ⟨by omega, fun i hi => by omega⟩ ?_ ?_
      · refine weakS_mk [some 0, some 1] rfl ?_ (by simp -dsimp -implicitDefEqProofs (disch := omega) [go_sem, -List.getD_eq_getElem?_getD, ite_yes, ht, htp])
        simp -dsimp -implicitDefEqProofs (disch := omega) [go_sem, -List.getD_eq_getElem?_getD, ite_yes, ht, htp]
        exact ⟨wl_net htp, wl_vl _⟩
      rintro m ⟨hm, hf⟩
      by_cases hmk : m < k
      · exact absurd hmk (by omega)
      · have hmk' : ¬ (m : Int) < (k : Int) := by omega
        obtain rfl : m = k := by omega
        simp -dsimp -implicitDefEqProofs (disch := omega) [go_sem, -List.getD_eq_getElem?_getD, ite_yes, hmk]
        refine LoopEnd.of (m + 1) ⟨by omega, hg.next (by rw [oneV, e1, hb, hon1, twinV_no (by omega) hf]; rfl)⟩ (by omega) (weakS_mk [some 0] rfl ?_ (by simp -dsimp -implicitDefEqProofs (disch := omega) [go_sem, -List.getD_eq_getElem?_getD, ite_yes, ht, htp]))
        simp -dsimp -implicitDefEqProofs (disch := omega) [go_sem, -List.getD_eq_getElem?_getD, ite_yes, ht]
        exact wl_net htp
    · by_cases h2 : p.2.2.1 = (l.getD k vl0).2.2.1
      · have hon1 : onP ps (l.getD k vl0).2.1 (l.getD k vl0).2.2.1 = true := by rw [hon, decide_eq_true (by omega), decide_eq_true h2]; simp
        simp -dsimp -implicitDefEqProofs (disch := omega) [go_sem, -List.getD_eq_getElem?_getD, ite_yes, hlt, cs, csk, ht, htp, hqn, hq, h1, h2, cq10, cq20]
        refine ALoop.intro (ι := Nat) (fun m => m ≤ k ∧ findTo vl0 (sameV (l.getD k vl0)) l m) (fun m => [(1, .slice (some ⟨t, 0, none⟩) l.length c), (2, .pointer (some ⟨H.length, 0, none⟩)), (5, .int .i64 k), (6, .pointer (some ⟨H.length + 1, 0, none⟩)), (8, .int .i64 m)]) (fun _ => H ++ [some ⟨[.int .i64 n, .slice (some ⟨tp, 0, none⟩) ps.length cp], true, 26, 1⟩, some ⟨[.int .i64 (l.getD k vl0).1, .int .i64 (l.getD k vl0).2.1, .int .i64 (l.getD k vl0).2.2.1, .bool (l.getD k vl0).2.2.2], true, 71, 1⟩]) (fun m => k - m) 0 ⟨by omega, fun i hi => by omega⟩ ?_ ?_
        · refine weakS_mk [some 0, some 1] rfl ?_ (by simp -dsimp -implicitDefEqProofs (disch := omega) [go_sem, -List.getD_eq_getElem?_getD, ite_yes, ht, htp])
          simp -dsimp -implicitDefEqProofs (disch := omega) [go_sem, -List.getD_eq_getElem?_getD, ite_yes, ht, htp]
          exact ⟨wl_net htp, wl_vl _⟩
        rintro m ⟨hm, hf⟩
        by_cases hmk : m < k
        · exact absurd hmk (by omega)
        · have hmk' : ¬ (m : Int) < (k : Int) := by omega
          obtain rfl : m = k := by omega
          simp -dsimp -implicitDefEqProofs (disch := omega) [go_sem, -List.getD_eq_getElem?_getD, ite_yes, hmk]
          refine LoopEnd.of (m + 1) ⟨by omega, hg.next (by rw [oneV, e1, hb, hon1, twinV_no (by omega) hf]; rfl)⟩ (by omega) (weakS_mk [some 0] rfl ?_ (by simp -dsimp -implicitDefEqProofs (disch := omega) [go_sem, -List.getD_eq_getElem?_getD, ite_yes, ht, htp]))
          simp -dsimp -implicitDefEqProofs (disch := omega) [go_sem, -List.getD_eq_getElem?_getD, ite_yes, ht]
          exact wl_net htp
      · simp -dsimp -implicitDefEqProofs (disch := omega) [go_sem, -List.getD_eq_getElem?_getD, ite_yes, hlt, cs, csk, ht, htp, hqn, hq, h1, h2, cq10, cq20]
        exact fin_flat rfl (by rw [goodV_no hlt (by simp only [oneV, hon]; rw [decide_eq_false h1, decide_eq_false h2]; simp)])
theorem iValidValves_A (n : Int) (ps : List Pp) (hps : ps.length ≤ 1048577) (cp : Nat) (l : List Vl) (hl : l.length ≤ 1048577) (c : Nat) (H : Heap) (tp t : Nat) (hP : Sl ppE H tp ps) (hS : Sl vlE H t l) :
    AFunC Tryz.prog 53 [netV n tp ps.length cp, .slice (some ⟨t, 0, none⟩) l.length c] H (.bool (goodV n ps l)) H := by
  refine AFunC.of_body Tryz.func53 (by kernel_rfl) rfl (by kernel_rfl) (by simp [Tryz.ntmps53]) ?_
  have ht := hS.lt
  have htp := hP.lt
  have cs := fun k hk => hS.cells (s := 4) (fun _ => rfl) vl0 k hk
  have csk := fun k hk => hS.cell (s := 4) (fun _ => rfl) vl0 k 0 hk (by omega)
  have cv1 := fun k hk => hS.cell (s := 4) (fun _ => rfl) vl0 k 1 hk (by omega)
  have cv2 := fun k hk => hS.cell (s := 4) (fun _ => rfl) vl0 k 2 hk (by omega)
  have cq := fun k hk => hP.cells (s := 4) (fun _ => rfl) pp0 k hk
  have cq1 := fun k hk => hP.cell (s := 4) (fun _ => rfl) pp0 k 1 hk (by omega)
  have cq2 := fun k hk => hP.cell (s := 4) (fun _ => rfl) pp0 k 2 hk (by omega)
  simp only [Nat.add_zero, vlE] at csk cs cv1 cv2
  simp only [Nat.add_zero, ppE] at cq cq1 cq2
  simp -dsimp -implicitDefEqProofs (disch := omega) [go_sem, -List.getD_eq_getElem?_getD, ite_yes, ht, htp]
  refine ACall.of (iValidNetwork_A n ps hps cp _ tp hP.app) ?_
  cases hn : goodN n ps
  · simp -dsimp -implicitDefEqProofs (disch := omega) [go_sem, -List.getD_eq_getElem?_getD, ite_yes]
    exact fin_flat rfl (by rw [goodV, hn, Bool.false_and])
  have hN := NetAt.of hn
  simp -dsimp -implicitDefEqProofs (disch := omega) [go_sem, -List.getD_eq_getElem?_getD, ite_yes, ht, htp]
  refine AIf.of (fun h => ?_) (fun h10 => ?_)
  · simp -dsimp -implicitDefEqProofs (disch := omega) [go_sem, -List.getD_eq_getElem?_getD, ite_yes]
    exact fin_flat rfl (by simp at h; rw [goodV, hn, decide_eq_false (by omega)]; rfl)
  simp at h10
  have h10 : l.length ≤ 10 := by omega
  simp -dsimp -implicitDefEqProofs (disch := omega) [go_sem, -List.getD_eq_getElem?_getD, ite_yes, ht, htp]
  refine ALoop.intro (ι := Nat) (fun k => k ≤ l.length ∧ goodVTo ps l k) (fun k => [(1, .slice (some ⟨t, 0, none⟩) l.length c), (2, .pointer (some ⟨H.length, 0, none⟩)), (16, .slice (some ⟨t, 0, none⟩) l.length c), (17, .int .i64 l.length), (18, .int .i64 k)]) (fun _ => H ++ [some ⟨[.int .i64 n, .slice (some ⟨tp, 0, none⟩) ps.length cp], true, 26, 1⟩]) (fun k => l.length - k) 0 ⟨by omega, fun i hi => by omega⟩ ?_ ?_
  · refine weakS_mk [some 0] rfl ?_ (by simp -dsimp -implicitDefEqProofs (disch := omega) [go_sem, -List.getD_eq_getElem?_getD, ite_yes, ht, htp])
    simp -dsimp -implicitDefEqProofs (disch := omega) [go_sem, -List.getD_eq_getElem?_getD, ite_yes, ht, htp]
    exact wl_net htp
  rintro k ⟨hk, hg⟩
  by_cases hlt : k < l.length
  rotate_left
  · simp -dsimp -implicitDefEqProofs (disch := omega) [go_sem, -List.getD_eq_getElem?_getD, ite_yes, hlt]
    obtain rfl : k = l.length := by omega
    exact fin_flat rfl (by rw [goodV_end hn h10 hg])
  simp -dsimp -implicitDefEqProofs (disch := omega) [go_sem, -List.getD_eq_getElem?_getD, ite_yes, hlt, cs, ht, htp]
  refine ACall.of (pipeIndex_A n ps hps cp (l.getD k vl0).2.1 _ tp hP.app) ?_
  have hix := ix_cases pp0 (pipeIs (l.getD k vl0).2.1) ps
  rw [show ixOf (pipeIs (l.getD k vl0).2.1) ps = pipeIx ps (l.getD k vl0).2.1 from rfl] at hix
  have hon : onP ps (l.getD k vl0).2.1 (l.getD k vl0).2.2.1 = (decide (0 ≤ pipeIx ps (l.getD k vl0).2.1) && (decide ((ps.getD (pipeIx ps (l.getD k vl0).2.1).toNat pp0).2.1 = (l.getD k vl0).2.2.1) || decide ((ps.getD (pipeIx ps (l.getD k vl0).2.1).toNat pp0).2.2.1 = (l.getD k vl0).2.2.1))) := rfl
  generalize pipeIx ps (l.getD k vl0).2.1 = ix at *
  simp -dsimp -implicitDefEqProofs (disch := omega) [go_sem, -List.getD_eq_getElem?_getD, ite_yes, hlt, cs, ht, htp]
  refine ADraw.quiet (by kernel_rfl) (by kernel_rfl) (by kernel_rfl) ?_
  simp -dsimp -implicitDefEqProofs (disch := omega) [go_sem, -List.getD_eq_getElem?_getD, ite_yes, hlt, cs, csk, ht, htp]
  refine ACallQ.of (inside_A (l.getD k vl0).1 1 99 _) rfl ?_
  cases e1 : inB (l.getD k vl0).1 1 99
  · simp -dsimp -implicitDefEqProofs (disch := omega) [go_sem, -List.getD_eq_getElem?_getD, ite_yes]
    exact fin_flat rfl (by rw [goodV_no hlt (by simp only [oneV, e1, Bool.false_and])])
  simp -dsimp -implicitDefEqProofs (disch := omega) [go_sem, -List.getD_eq_getElem?_getD, ite_yes, hlt, cs, csk, ht, htp]
  refine AIf.of (fun h2 => ?_) (fun h2 => ?_)
  · simp at h2
    simp -dsimp -implicitDefEqProofs (disch := omega) [go_sem, -List.getD_eq_getElem?_getD, ite_yes, hlt, cs, csk, ht, htp]
    refine AIf.of (fun h3 => ?_) (fun h3 => ?_)
    · simp -dsimp -implicitDefEqProofs (disch := omega) [go_sem, -List.getD_eq_getElem?_getD, ite_yes, hlt, cs, csk]
      exact fin_flat rfl (by rw [goodV_no hlt (by simp [-List.getD_eq_getElem?_getD] at h3; simp only [oneV]; rw [decide_eq_true h2, decide_eq_true h3]; simp)])
    · simp [-List.getD_eq_getElem?_getD] at h3
      have hb : (decide (0 < k) && decide ((l.getD k vl0).1 ≤ (l.getD (k - 1) vl0).1)) = false := by rw [decide_eq_false (show ¬ (l.getD k vl0).1 ≤ (l.getD (k - 1) vl0).1 by omega), Bool.and_false]
      simp -dsimp -implicitDefEqProofs (disch := omega) [go_sem, -List.getD_eq_getElem?_getD, ite_yes, hlt, cs, csk, ht, htp]
      rcases hix with ⟨hi, _⟩ | ⟨q, hi, hq, _, _⟩
      · subst hi
        simp -dsimp -implicitDefEqProofs (disch := omega) [go_sem, -List.getD_eq_getElem?_getD, ite_yes, hlt, cs, csk, ht, htp]
        exact fin_flat rfl (by rw [goodV_no hlt (by rw [oneV, hon]; simp)])
      subst hi
      have hqn : ¬ (q : Int) < 0 := by omega
      have hend := hN.f_end q hq
      simp only [Int.toNat_natCast] at hon
      obtain ⟨p, hp⟩ : ∃ p, ps.getD q pp0 = p := ⟨_, rfl⟩
      simp only [hp] at hon hend
      have cq0 := cq q hq
      have cq10 := cq1 q hq
      have cq20 := cq2 q hq
      rw [hp] at cq0 cq10 cq20
      by_cases h1 : (l.getD k vl0).2.2.1 < 1
      · simp -dsimp -implicitDefEqProofs (disch := omega) [go_sem, -List.getD_eq_getElem?_getD, ite_yes, hlt, cs, csk, ht, htp, hqn, hq, h1]
        exact fin_flat rfl (by rw [goodV_no hlt (by simp only [oneV, hon]; rw [decide_eq_false (show ¬ p.2.1 = (l.getD k vl0).2.2.1 by omega), decide_eq_false (show ¬ p.2.2.1 = (l.getD k vl0).2.2.1 by omega)]; simp)])
      simp -dsimp -implicitDefEqProofs (disch := omega) [go_sem, -List.getD_eq_getElem?_getD, ite_yes, hlt, cs, csk, ht, htp, hqn, hq, h1, cq0]
      refine ACallQ.of (other_A p (l.getD k vl0).2.2.1 _) rfl ?_
      by_cases h2 : otherOf p (l.getD k vl0).2.2.1 = 0
      · simp -dsimp -implicitDefEqProofs (disch := omega) [go_sem, -List.getD_eq_getElem?_getD, ite_yes, h2]
        exact fin_flat rfl (by rw [goodV_no hlt (by simp only [oneV, hon]; unfold otherOf at h2; rw [decide_eq_false (show ¬ p.2.1 = (l.getD k vl0).2.2.1 by split at h2 <;> (try split at h2) <;> omega), decide_eq_false (show ¬ p.2.2.1 = (l.getD k vl0).2.2.1 by split at h2 <;> (try split at h2) <;> omega)]; simp)])
      have hon1 : onP ps (l.getD k vl0).2.1 (l.getD k vl0).2.2.1 = true := by
        rw [hon, decide_eq_true (by omega), Bool.true_and, Bool.or_eq_true, decide_eq_true_eq, decide_eq_true_eq]
        unfold otherOf at h2
        split at h2 <;> (try split at h2) <;> omega
      have c1 := cv1 k hlt
      have c2 := cv2 k hlt
      have ki : ((k : Int)).toNat = k := Int.toNat_natCast k
      simp -dsimp -implicitDefEqProofs (disch := omega) [go_sem, -List.getD_eq_getElem?_getD, ite_yes, h2, hlt, hk, cs, csk, ht, htp]
      have A := containsFuncVl_A (l.take k) (sameV (l.getD k vl0)) 79 #[.pointer (some ⟨H.length + 1, 0, none⟩)] (by rw [List.length_take]; omega) k (H ++ [some ⟨[.int .i64 n, .slice (some ⟨tp, 0, none⟩) ps.length cp], true, 26, 1⟩, some ⟨[.int .i64 (l.getD k vl0).1, .int .i64 (l.getD k vl0).2.1, .int .i64 (l.getD k vl0).2.2.1, .bool (l.getD k vl0).2.2.2], true, 71, 1⟩]) t (hS.take k).app (by simp -dsimp -implicitDefEqProofs (disch := omega) [go_sem, -List.getD_eq_getElem?_getD, ite_yes, ht]) (fun j hj => validValves1_A _ _ _ _ (by simp) (by simp -dsimp -implicitDefEqProofs (disch := omega) [go_sem, -List.getD_eq_getElem?_getD, ite_yes, ht]) (by simp -dsimp -implicitDefEqProofs (disch := omega) [go_sem, -List.getD_eq_getElem?_getD, ite_yes, ht]))
      rw [List.length_take_of_le hk, show decide (0 ≤ ixOf (sameV (l.getD k vl0)) (l.take k)) = twinV l k from rfl] at A
      refine ACall.of A ?_
      cases h3 : twinV l k
      · simp -dsimp -implicitDefEqProofs (disch := omega) [go_sem, -List.getD_eq_getElem?_getD, ite_yes, hlt]
        refine LoopEnd.of (k + 1) ⟨by omega, hg.next (by rw [oneV, e1, hb, hon1, h3]; rfl)⟩ (by omega) (weakS_mk [some 0] rfl ?_ (by simp -dsimp -implicitDefEqProofs (disch := omega) [go_sem, -List.getD_eq_getElem?_getD, ite_yes, ht, htp]))
        simp -dsimp -implicitDefEqProofs (disch := omega) [go_sem, -List.getD_eq_getElem?_getD, ite_yes, ht]
        exact wl_net htp
      · simp -dsimp -implicitDefEqProofs (disch := omega) [go_sem, -List.getD_eq_getElem?_getD, ite_yes, hlt]
        exact fin_flat rfl (by rw [goodV_no hlt (by rw [oneV, h3]; simp)])
  · simp at h2
    have hb : (decide (0 < k) && decide ((l.getD k vl0).1 ≤ (l.getD (k - 1) vl0).1)) = false := by rw [decide_eq_false (show ¬ 0 < k by omega), Bool.false_and]
    simp -dsimp -implicitDefEqProofs (disch := omega) [go_sem, -List.getD_eq_getElem?_getD, ite_yes, hlt, cs, csk, ht, htp]
    rcases hix with ⟨hi, _⟩ | ⟨q, hi, hq, _, _⟩
    · subst hi
      simp -dsimp -implicitDefEqProofs (disch := omega) [go_sem, -List.getD_eq_getElem?_getD, ite_yes, hlt, cs, csk, ht, htp]
      exact fin_flat rfl (by rw [goodV_no hlt (by rw [oneV, hon]; simp)])
    subst hi
    have hqn : ¬ (q : Int) < 0 := by omega
    have hend := hN.f_end q hq
    simp only [Int.toNat_natCast] at hon
    obtain ⟨p, hp⟩ : ∃ p, ps.getD q pp0 = p := ⟨_, rfl⟩
    simp only [hp] at hon hend
    have cq0 := cq q hq
    have cq10 := cq1 q hq
    have cq20 := cq2 q hq
    rw [hp] at cq0 cq10 cq20
    by_cases h1 : (l.getD k vl0).2.2.1 < 1
    · simp -dsimp -implicitDefEqProofs (disch := omega) [go_sem, -List.getD_eq_getElem?_getD, ite_yes, hlt, cs, csk, ht, htp, hqn, hq, h1]
      exact fin_flat rfl (by rw [goodV_no hlt (by simp only [oneV, hon]; rw [decide_eq_false (show ¬ p.2.1 = (l.getD k vl0).2.2.1 by omega), decide_eq_false (show ¬ p.2.2.1 = (l.getD k vl0).2.2.1 by omega)]; simp)])
    simp -dsimp -implicitDefEqProofs (disch := omega) [go_sem, -List.getD_eq_getElem?_getD, ite_yes, hlt, cs, csk, ht, htp, hqn, hq, h1, cq0]
    refine ACallQ.of (other_A p (l.getD k vl0).2.2.1 _) rfl ?_
    by_cases h2 : otherOf p (l.getD k vl0).2.2.1 = 0
    · simp -dsimp -implicitDefEqProofs (disch := omega) [go_sem, -List.getD_eq_getElem?_getD, ite_yes, h2]
      exact fin_flat rfl (by rw [goodV_no hlt (by simp only [oneV, hon]; unfold otherOf at h2; rw [decide_eq_false (show ¬ p.2.1 = (l.getD k vl0).2.2.1 by split at h2 <;> (try split at h2) <;> omega), decide_eq_false (show ¬ p.2.2.1 = (l.getD k vl0).2.2.1 by split at h2 <;> (try split at h2) <;> omega)]; simp)])
    have hon1 : onP ps (l.getD k vl0).2.1 (l.getD k vl0).2.2.1 = true := by
      rw [hon, decide_eq_true (by omega), Bool.true_and, Bool.or_eq_true, decide_eq_true_eq, decide_eq_true_eq]
      unfold otherOf at h2
      split at h2 <;> (try split at h2) <;> omega
    have c1 := cv1 k hlt
    have c2 := cv2 k hlt
    have ki : ((k : Int)).toNat = k := Int.toNat_natCast k
    simp -dsimp -implicitDefEqProofs (disch := omega) [go_sem, -List.getD_eq_getElem?_getD, ite_yes, h2, hlt, hk, cs, csk, ht, htp]
    have A := containsFuncVl_A (l.take k) (sameV (l.getD k vl0)) 79 #[.pointer (some ⟨H.length + 1, 0, none⟩)] (by rw [List.length_take]; omega) k (H ++ [some ⟨[.int .i64 n, .slice (some ⟨tp, 0, none⟩) ps.length cp], true, 26, 1⟩, some ⟨[.int .i64 (l.getD k vl0).1, .int .i64 (l.getD k vl0).2.1, .int .i64 (l.getD k vl0).2.2.1, .bool (l.getD k vl0).2.2.2], true, 71, 1⟩]) t (hS.take k).app (by simp -dsimp -implicitDefEqProofs (disch := omega) [go_sem, -List.getD_eq_getElem?_getD, ite_yes, ht]) (fun j hj => validValves1_A _ _ _ _ (by simp) (by simp -dsimp -implicitDefEqProofs (disch := omega) [go_sem, -List.getD_eq_getElem?_getD, ite_yes, ht]) (by simp -dsimp -implicitDefEqProofs (disch := omega) [go_sem, -List.getD_eq_getElem?_getD, ite_yes, ht]))
    rw [List.length_take_of_le hk, show decide (0 ≤ ixOf (sameV (l.getD k vl0)) (l.take k)) = twinV l k from rfl] at A
    rw [show Value.slice (some ⟨t, 0, none⟩) k k = .slice (some ⟨t, 0, none⟩) 0 0 by rw [show k = 0 by omega]] at A
    refine ACall.of A ?_
    cases h3 : twinV l k
    · simp -dsimp -implicitDefEqProofs (disch := omega) [go_sem, -List.getD_eq_getElem?_getD, ite_yes, hlt]
      refine LoopEnd.of (k + 1) ⟨by omega, hg.next (by rw [oneV, e1, hb, hon1, h3]; rfl)⟩ (by omega) (weakS_mk [some 0] rfl ?_ (by simp -dsimp -implicitDefEqProofs (disch := omega) [go_sem, -List.getD_eq_getElem?_getD, ite_yes, ht, htp]))
      simp -dsimp -implicitDefEqProofs (disch := omega) [go_sem, -List.getD_eq_getElem?_getD, ite_yes, ht]
      exact wl_net htp
    · simp -dsimp -implicitDefEqProofs (disch := omega) [go_sem, -List.getD_eq_getElem?_getD, ite_yes, hlt]
      exact fin_flat rfl (by rw [goodV_no hlt (by rw [oneV, h3]; simp)])
end Go.Proofs.YtncblopbcnkinaaGreat
/- Numbers in ascending order: where one belongs, and the list with it; in plain Lean. -/
namespace Go.Proofs.YtncblopbcnkinaaGreat
open Go.Am
set_option linter.unusedVariables false
set_option linter.unusedSimpArgs false

def place : List Int → Int → Nat
  | [], _ => 0
  | a :: l, n => if a < n then place l n + 1 else 0
theorem place_le : ∀ (l : List Int) (n : Int), place l n ≤ l.length
  | [], n => Nat.le_refl _
  | a :: l, n => by
    have := place_le l n
    simp only [place, List.length_cons]
    split <;> omega
theorem place_lt : ∀ (l : List Int) (n : Int) (i : Nat), i < place l n → l.getD i 0 < n
  | [], n, i, h => absurd h (Nat.not_lt_zero _)
  | a :: l, n, i, h => by
    simp only [place] at h
    split at h
    · rename_i ha
      cases i with
      | zero => exact ha
      | succ i => exact place_lt l n i (by omega)
    · exact absurd h (Nat.not_lt_zero _)
theorem place_at : ∀ (l : List Int) (n : Int), place l n < l.length → n ≤ l.getD (place l n) 0
  | [], n, h => absurd h (Nat.not_lt_zero _)
  | a :: l, n, h => by
    simp only [place] at h ⊢
    split
    · rename_i ha
      rw [if_pos ha] at h
      exact place_at l n (by simpa using h)
    · rename_i ha
      simp only [List.getD_cons_zero]; omega
theorem place_uniq {l : List Int} {n : Int} {k : Nat} (hk : k ≤ l.length) (h1 : ∀ i, i < k → l.getD i 0 < n) (h2 : k < l.length → n ≤ l.getD k 0) : k = place l n := by
  rcases Nat.lt_trichotomy k (place l n) with h | h | h
  · have := place_lt l n k h
    have := place_le l n
    have := h2 (by omega)
    omega
  · exact h
  · have := h1 (place l n) h
    have := place_at l n (by omega)
    omega
def Up (l : List Int) : Prop := l.Pairwise (· < ·)
theorem up_nil : Up [] := List.Pairwise.nil
theorem up_one (n : Int) : Up [n] := List.pairwise_singleton _ _
def putL (l : List Int) (n : Int) : List Int := l.take (place l n) ++ n :: l.drop (place l n)
theorem mem_putL {l : List Int} {n m : Int} : m ∈ putL l n ↔ m = n ∨ m ∈ l := by
  have : m ∈ l ↔ m ∈ l.take (place l n) ∨ m ∈ l.drop (place l n) := by
    rw [← List.mem_append, List.take_append_drop]
  rw [this]
  simp only [putL, List.mem_append, List.mem_cons]
  constructor
  · rintro (h | h | h)
    · exact .inr (.inl h)
    · exact .inl h
    · exact .inr (.inr h)
  · rintro (h | h | h)
    · exact .inr (.inl h)
    · exact .inl h
    · exact .inr (.inr h)
theorem putL_length (l : List Int) (n : Int) : (putL l n).length = l.length + 1 := by
  have := place_le l n
  simp only [putL, List.length_append, List.length_take, List.length_cons, List.length_drop]
  omega
theorem Up.mem_iff {n : Int} : ∀ {l : List Int}, Up l → (n ∈ l ↔ place l n < l.length ∧ l.getD (place l n) 0 = n)
  | [], h => by simp [place]
  | a :: l, h => by
    have h' := List.pairwise_cons.1 h
    have ih := Up.mem_iff (n := n) h'.2
    simp only [List.mem_cons, place, List.length_cons]
    split
    · rename_i ha
      rw [List.getD_cons_succ, ih]
      constructor
      · rintro (h | h)
        · omega
        · exact ⟨by omega, h.2⟩
      · rintro ⟨h1, h2⟩
        exact .inr ⟨by omega, h2⟩
    · rename_i ha
      rw [List.getD_cons_zero]
      constructor
      · rintro (h | h)
        · exact ⟨by omega, h.symm⟩
        · have := h'.1 n h; omega
      · rintro ⟨_, h⟩
        exact .inl h.symm
theorem putL_cons_lt {a n : Int} (h : a < n) (l : List Int) : putL (a :: l) n = a :: putL l n := by
  simp only [putL, place, if_pos h, List.take_succ_cons, List.drop_succ_cons, List.cons_append]
theorem putL_cons_ge {a n : Int} (h : ¬ a < n) (l : List Int) : putL (a :: l) n = n :: a :: l := by
  simp only [putL, place, if_neg h, List.take_zero, List.drop_zero, List.nil_append]
theorem Up.put {n : Int} : ∀ {l : List Int}, Up l → n ∉ l → Up (putL l n)
  | [], h, hn => by simp [putL, place, Up]
  | a :: l, h, hn => by
    have h' := List.pairwise_cons.1 h
    by_cases ha : a < n
    · rw [putL_cons_lt ha]
      refine List.pairwise_cons.2 ⟨fun m hm => ?_, Up.put h'.2 (fun h => hn (List.mem_cons_of_mem _ h))⟩
      rcases mem_putL.1 hm with rfl | hm
      · exact ha
      · exact h'.1 m hm
    · rw [putL_cons_ge ha]
      have hna : n ≠ a := fun e => hn (by simp [e])
      refine List.pairwise_cons.2 ⟨fun m hm => ?_, h⟩
      rcases List.mem_cons.1 hm with rfl | hm
      · omega
      · have := h'.1 m hm; omega
/-- whether a list has a number -/
def hasI (l : List Int) (n : Int) : Bool := decide (n ∈ l)
theorem hasI_put (l : List Int) (n m : Int) : hasI (putL l n) m = (decide (m = n) || hasI l m) := by
  simp [hasI, mem_putL]
theorem hasI_no {l : List Int} {n : Int} (h : ∀ i, i < l.length → l.getD i 0 ≠ n) : hasI l n = false := by
  refine decide_eq_false fun hm => ?_
  obtain ⟨i, hi, e⟩ := List.mem_iff_getElem.1 hm
  exact h i hi (by simp [List.getD_eq_getElem?_getD, hi, e])
theorem hasI_yes {l : List Int} {n : Int} {i : Nat} (hi : i < l.length) (h : l.getD i 0 = n) : hasI l n = true := by
  refine decide_eq_true ?_
  rw [← h, List.getD_eq_getElem?_getD, List.getElem?_eq_getElem hi]
  exact List.getElem_mem hi
end Go.Proofs.YtncblopbcnkinaaGreat
/- The reference's lists of numbers: whether one is in, and the list with it. -/
namespace Go.Proofs.YtncblopbcnkinaaGreat
open Go.Am
set_option linter.unusedVariables false
set_option linter.unusedSimpArgs false
set_option maxRecDepth 100000
set_option maxHeartbeats 2000000

theorem l1Has_A (l : List Int) (n : Int) (hl : l.length ≤ 1048577) (c : Nat) (H : Heap) (t : Nat) (hS : Sl nmE H t l) :
    AFunC Tryz.prog 50 [.slice (some ⟨t, 0, none⟩) l.length c, .int .i64 n] H (.bool (hasI l n)) H := by
  refine AFunC.of_body Tryz.func50 (by kernel_rfl) rfl (by kernel_rfl) (by simp [Tryz.ntmps50]) ?_
  have ht := hS.lt
  have cs := fun k hk => hS.one (g := fun n => Value.int .i64 n) 0 k hk
  simp -dsimp -implicitDefEqProofs (disch := omega) [go_sem, -List.getD_eq_getElem?_getD, ite_yes]
  refine ALoop.intro (ι := Nat) (fun k => k ≤ l.length ∧ ∀ i, i < k → l.getD i 0 ≠ n) (fun k => [(0, .slice (some ⟨t, 0, none⟩) l.length c), (1, .int .i64 n), (5, .int .i64 k)]) (fun _ => H) (fun k => l.length - k) 0 ⟨by omega, fun i hi => by omega⟩ ?_ ?_
  · exact weakS_same (by simp -dsimp -implicitDefEqProofs (disch := omega) [go_sem, -List.getD_eq_getElem?_getD, ite_yes, ht])
  · rintro k ⟨hk, hf⟩
    by_cases hlt : k < l.length
    · by_cases h : l.getD k 0 = n
      · simp -dsimp -implicitDefEqProofs (disch := omega) [go_sem, -List.getD_eq_getElem?_getD, ite_yes, hlt, cs, h]
        exact fin_flat0 rfl (by rw [hasI_yes hlt h])
      · simp -dsimp -implicitDefEqProofs (disch := omega) [go_sem, -List.getD_eq_getElem?_getD, ite_yes, hlt, cs, h]
        refine LoopEnd.of (k + 1) ⟨by omega, fun i hi => ?_⟩ (by omega) (weakS_same (by simp -dsimp -implicitDefEqProofs (disch := omega) [go_sem, -List.getD_eq_getElem?_getD, ite_yes, ht]))
        rcases Nat.lt_or_ge i k with h' | h'
        · exact hf i h'
        · rw [show i = k by omega]; exact h
    · simp -dsimp -implicitDefEqProofs (disch := omega) [go_sem, -List.getD_eq_getElem?_getD, ite_yes, hlt]
      exact fin_flat0 rfl (by rw [hasI_no (fun i hi => hf i (by omega))])
theorem l1Put_in (l : List Int) (n : Int) (hl : l.length ≤ 1048577) (hu : Up l) (hn : hasI l n = true) (c : Nat) (H : Heap) (t : Nat) (hS : Sl nmE H t l) :
    AFunC Tryz.prog 115 [.slice (some ⟨t, 0, none⟩) l.length c, .int .i64 n] H (.slice (some ⟨t, 0, none⟩) l.length c) H := by
  refine AFunC.of_body Tryz.func115 (by kernel_rfl) rfl (by kernel_rfl) (by simp [Tryz.ntmps115]) ?_
  have ht := hS.lt
  have cs := fun k hk => hS.one (g := fun n => Value.int .i64 n) 0 k hk
  obtain ⟨hp1, hp2⟩ := hu.mem_iff.1 (of_decide_eq_true hn)
  simp -dsimp -implicitDefEqProofs (disch := omega) [go_sem, -List.getD_eq_getElem?_getD, ite_yes]
  refine ALoop.intro (ι := Nat) (fun k => k ≤ place l n) (fun k => [(0, .slice (some ⟨t, 0, none⟩) l.length c), (1, .int .i64 n), (5, .int .i64 k)]) (fun _ => H) (fun k => l.length - k) 0 (by omega) ?_ ?_
  · exact weakS_same (by simp -dsimp -implicitDefEqProofs (disch := omega) [go_sem, -List.getD_eq_getElem?_getD, ite_yes, ht])
  · intro k hk
    have hlt : k < l.length := by omega
    by_cases h : k = place l n
    · subst h
      have h2 : ¬ l.getD (place l n) 0 < n := by omega
      simp -dsimp -implicitDefEqProofs (disch := omega) [go_sem, -List.getD_eq_getElem?_getD, ite_yes, hlt, cs, h2, hp2]
      exact fin_same (by simp -dsimp -implicitDefEqProofs (disch := omega) [go_sem, -List.getD_eq_getElem?_getD, ite_yes, ht])
    · have h2 := place_lt l n k (by omega)
      simp -dsimp -implicitDefEqProofs (disch := omega) [go_sem, -List.getD_eq_getElem?_getD, ite_yes, hlt, cs, h2]
      exact LoopEnd.of (k + 1) (by omega) (by omega) (weakS_same (by simp -dsimp -implicitDefEqProofs (disch := omega) [go_sem, -List.getD_eq_getElem?_getD, ite_yes, ht]))
theorem l1Put_new (l : List Int) (n : Int) (hl : l.length ≤ 1048576) (hu : Up l) (hn : hasI l n = false) (c : Nat) (H : Heap) (t : Nat) (hS : Sl nmE H t l) (hz : blkSz H t = some 1) :
    AFunC Tryz.prog 115 [.slice (some ⟨t, 0, none⟩) l.length c, .int .i64 n] H (.slice (some ⟨H.length, 0, none⟩) (l.length + 1) (l.length + 1)) (H ++ [some ⟨(putL l n).flatMap nmE, true, 3, 1⟩]) := by
  refine AFunC.of_body Tryz.func115 (by kernel_rfl) rfl (by kernel_rfl) (by simp [Tryz.ntmps115]) ?_
  have ht := hS.lt
  have cs := fun k hk => hS.one (g := fun n => Value.int .i64 n) 0 k hk
  have hple := place_le l n
  have hpa := place_at l n
  have hno : ¬ (place l n < l.length ∧ l.getD (place l n) 0 = n) := fun h => by
    have := decide_eq_true (hu.mem_iff.2 h)
    rw [hasI] at hn; rw [hn] at this; cases this
  simp -dsimp -implicitDefEqProofs (disch := omega) [go_sem, -List.getD_eq_getElem?_getD, ite_yes]
  refine ALoop.intro (ι := Nat) (fun k => k ≤ place l n) (fun k => [(0, .slice (some ⟨t, 0, none⟩) l.length c), (1, .int .i64 n), (5, .int .i64 k)]) (fun _ => H) (fun k => l.length - k) 0 (by omega) ?_ ?_
  · exact weakS_same (by simp -dsimp -implicitDefEqProofs (disch := omega) [go_sem, -List.getD_eq_getElem?_getD, ite_yes, ht])
  · intro k hk
    by_cases h : k = place l n
    rotate_left
    · have h2 := place_lt l n k (by omega)
      have hlt : k < l.length := by omega
      simp -dsimp -implicitDefEqProofs (disch := omega) [go_sem, -List.getD_eq_getElem?_getD, ite_yes, hlt, cs, h2]
      exact LoopEnd.of (k + 1) (by omega) (by omega) (weakS_same (by simp -dsimp -implicitDefEqProofs (disch := omega) [go_sem, -List.getD_eq_getElem?_getD, ite_yes, ht]))
    have c1 := hS.cut (s := 1) (fun _ => rfl) 0 k (by omega)
    have c2 := hS.cut (s := 1) (fun _ => rfl) k (l.length - k) (by omega)
    have hput : putL l n = l.take k ++ n :: l.drop k := by rw [h, putL]
    simp only [Nat.mul_one, Nat.zero_mul, List.drop_zero] at c1 c2
    have e1 : (List.flatMap nmE (List.take k l)).length = k := by rw [nmE_length, List.length_take]; omega
    have e2 : List.take (l.length - k) (List.drop k l) = List.drop k l := List.take_of_length_le (by rw [List.length_drop]; omega)
    have e3 : (List.flatMap nmE (List.drop k l)).length = l.length - k := by rw [nmE_length, List.length_drop]; omega
    have e4 : k + 1 + (l.length - k) = l.length + 1 := by omega
    have hkl : k ≤ l.length := by omega
    rw [e2] at c2
    have efin : (List.flatMap nmE (putL l n)) = List.flatMap nmE (List.take k l) ++ Value.int .i64 n :: List.flatMap nmE (List.drop k l) := by
      rw [hput, List.flatMap_append, List.flatMap_cons]; rfl
    by_cases hlt : k < l.length
    · have h2 : ¬ l.getD k 0 < n := by rw [h] at hlt ⊢; have := hpa hlt; omega
      have h3 : ¬ l.getD k 0 = n := by rw [h] at hlt ⊢; exact fun h => hno ⟨hlt, h⟩
      simp -dsimp -implicitDefEqProofs (disch := omega) [go_sem, -List.getD_eq_getElem?_getD, ite_yes, hlt, cs, h2, h3, hz, ht]
      refine ADraw.any H (by kernel_rfl) (by first | exact SubH.refl | exact SubH.app | exact SubH.both (by simp [subL])) ?_
      refine AAny.takes (fuel := 6) (by kernel_rfl) (by kernel_rfl) [1, 2, 3, 5, 8, 9, 10] (by kernel_rfl) (by kernel_rfl) ?_
      simp -dsimp -implicitDefEqProofs (disch := omega) [go_sem, -List.getD_eq_getElem?_getD, ite_yes, hlt, hz, ht, c1, c2, e1, e3, e4, hkl]
      refine AAny.two 5 0 6 (by kernel_rfl) (by kernel_rfl) (by kernel_rfl) ?_ ?_
      · simp -dsimp -implicitDefEqProofs (disch := omega) [go_sem, -List.getD_eq_getElem?_getD, ite_yes, hlt, hz, ht, c1, c2, e1, e3, e4, hkl]
        first | refine AAt.of (by first | exact SubH.refl | exact SubH.app | exact SubH.both (by simp [subL])) ?_ | (refine ⟨?_, AAt.of (by first | exact SubH.refl | exact SubH.app | exact SubH.both (by simp [subL])) ?_⟩; · omega)
        refine AAny.two 4 4 6 (by kernel_rfl) (by kernel_rfl) (by kernel_rfl) ?_ ?_
        · simp -dsimp -implicitDefEqProofs (disch := omega) [go_sem, -List.getD_eq_getElem?_getD, ite_yes, hlt, hz, ht, c1, c2, e1, e3, e4, hkl]
          first | refine AAt.of (by first | exact SubH.refl | exact SubH.app | exact SubH.both (by simp [subL])) ?_ | (refine ⟨?_, AAt.of (by first | exact SubH.refl | exact SubH.app | exact SubH.both (by simp [subL])) ?_⟩; · omega)
          refine AAny.one 3 6 (by kernel_rfl) (by kernel_rfl) (by kernel_rfl) ?_
          simp -dsimp -implicitDefEqProofs (disch := omega) [go_sem, -List.getD_eq_getElem?_getD, ite_yes, hlt, hz, ht, c1, c2, e1, e3, e4, hkl]
          first | refine AAt.of (by first | exact SubH.refl | exact SubH.app | exact SubH.both (by simp [subL])) ?_ | (refine ⟨?_, AAt.of (by first | exact SubH.refl | exact SubH.app | exact SubH.both (by simp [subL])) ?_⟩; · omega)
          refine AAny.one 2 7 (by kernel_rfl) (by kernel_rfl) (by kernel_rfl) ?_
          simp -dsimp -implicitDefEqProofs (disch := omega) [go_sem, -List.getD_eq_getElem?_getD, ite_yes, hlt, hz, ht, c1, c2, e1, e3, e4, hkl]
          first | refine AAt.of (by first | exact SubH.refl | exact SubH.app | exact SubH.both (by simp [subL])) ?_ | (refine ⟨?_, AAt.of (by first | exact SubH.refl | exact SubH.app | exact SubH.both (by simp [subL])) ?_⟩; · omega)
          refine AAny.one 1 11 (by kernel_rfl) (by kernel_rfl) (by kernel_rfl) ?_
          simp -dsimp -implicitDefEqProofs (disch := omega) [go_sem, -List.getD_eq_getElem?_getD, ite_yes, hlt, hz, ht, c1, c2, e1, e3, e4, hkl]
          first | refine AAt.of (by first | exact SubH.refl | exact SubH.app | exact SubH.both (by simp [subL])) ?_ | (refine ⟨?_, AAt.of (by first | exact SubH.refl | exact SubH.app | exact SubH.both (by simp [subL])) ?_⟩; · omega)
          refine AAny.takes (fuel := 0) (by kernel_rfl) (by kernel_rfl) [12] (by kernel_rfl) (by kernel_rfl) ?_
          simp -dsimp -implicitDefEqProofs (disch := omega) [go_sem, -List.getD_eq_getElem?_getD, ite_yes, hlt, hz, ht, c1, c2, e1, e3, e4, hkl]
          refine AAny.done (by kernel_rfl) ?_
          simp -dsimp -implicitDefEqProofs (disch := omega) [go_sem, -List.getD_eq_getElem?_getD, ite_yes, hlt, hz, ht, c1, c2, e1, e3, e4, hkl]
          refine fin_list [some 4] rfl ?_ (by simp -dsimp -implicitDefEqProofs (disch := omega) [go_sem, -List.getD_eq_getElem?_getD, ite_yes, e4])
          simp -dsimp -implicitDefEqProofs (disch := omega) [go_sem, -List.getD_eq_getElem?_getD, ite_yes]
          exact .inl ⟨efin, efin ▸ nmE_flat _⟩
        · simp -dsimp -implicitDefEqProofs (disch := omega) [go_sem, -List.getD_eq_getElem?_getD, ite_yes, hlt, hz, ht, c1, c2, e1, e3, e4, hkl]
          first | refine AAt.of (by first | exact SubH.refl | exact SubH.app | exact SubH.both (by simp [subL])) ?_ | (refine ⟨?_, AAt.of (by first | exact SubH.refl | exact SubH.app | exact SubH.both (by simp [subL])) ?_⟩; · omega)
          refine AAny.one 3 4 (by kernel_rfl) (by kernel_rfl) (by kernel_rfl) ?_
          simp -dsimp -implicitDefEqProofs (disch := omega) [go_sem, -List.getD_eq_getElem?_getD, ite_yes, hlt, hz, ht, c1, c2, e1, e3, e4, hkl]
          first | refine AAt.of (by first | exact SubH.refl | exact SubH.app | exact SubH.both (by simp [subL])) ?_ | (refine ⟨?_, AAt.of (by first | exact SubH.refl | exact SubH.app | exact SubH.both (by simp [subL])) ?_⟩; · omega)
          refine AAny.one 2 7 (by kernel_rfl) (by kernel_rfl) (by kernel_rfl) ?_
          simp -dsimp -implicitDefEqProofs (disch := omega) [go_sem, -List.getD_eq_getElem?_getD, ite_yes, hlt, hz, ht, c1, c2, e1, e3, e4, hkl]
          first | refine AAt.of (by first | exact SubH.refl | exact SubH.app | exact SubH.both (by simp [subL])) ?_ | (refine ⟨?_, AAt.of (by first | exact SubH.refl | exact SubH.app | exact SubH.both (by simp [subL])) ?_⟩; · omega)
          refine AAny.one 1 11 (by kernel_rfl) (by kernel_rfl) (by kernel_rfl) ?_
          simp -dsimp -implicitDefEqProofs (disch := omega) [go_sem, -List.getD_eq_getElem?_getD, ite_yes, hlt, hz, ht, c1, c2, e1, e3, e4, hkl]
          first | refine AAt.of (by first | exact SubH.refl | exact SubH.app | exact SubH.both (by simp [subL])) ?_ | (refine ⟨?_, AAt.of (by first | exact SubH.refl | exact SubH.app | exact SubH.both (by simp [subL])) ?_⟩; · omega)
          refine AAny.takes (fuel := 0) (by kernel_rfl) (by kernel_rfl) [12] (by kernel_rfl) (by kernel_rfl) ?_
          simp -dsimp -implicitDefEqProofs (disch := omega) [go_sem, -List.getD_eq_getElem?_getD, ite_yes, hlt, hz, ht, c1, c2, e1, e3, e4, hkl]
          refine AAny.done (by kernel_rfl) ?_
          simp -dsimp -implicitDefEqProofs (disch := omega) [go_sem, -List.getD_eq_getElem?_getD, ite_yes, hlt, hz, ht, c1, c2, e1, e3, e4, hkl]
          refine fin_list [some 4] rfl ?_ (by simp -dsimp -implicitDefEqProofs (disch := omega) [go_sem, -List.getD_eq_getElem?_getD, ite_yes, e4])
          simp -dsimp -implicitDefEqProofs (disch := omega) [go_sem, -List.getD_eq_getElem?_getD, ite_yes]
          exact .inl ⟨efin, efin ▸ nmE_flat _⟩
      · simp -dsimp -implicitDefEqProofs (disch := omega) [go_sem, -List.getD_eq_getElem?_getD, ite_yes, hlt, hz, ht, c1, c2, e1, e3, e4, hkl]
        first | refine AAt.of (by first | exact SubH.refl | exact SubH.app | exact SubH.both (by simp [subL])) ?_ | (refine ⟨?_, AAt.of (by first | exact SubH.refl | exact SubH.app | exact SubH.both (by simp [subL])) ?_⟩; · omega)
        refine AAny.one 4 0 (by kernel_rfl) (by kernel_rfl) (by kernel_rfl) ?_
        simp -dsimp -implicitDefEqProofs (disch := omega) [go_sem, -List.getD_eq_getElem?_getD, ite_yes, hlt, hz, ht, c1, c2, e1, e3, e4, hkl]
        first | refine AAt.of (by first | exact SubH.refl | exact SubH.app | exact SubH.both (by simp [subL])) ?_ | (refine ⟨?_, AAt.of (by first | exact SubH.refl | exact SubH.app | exact SubH.both (by simp [subL])) ?_⟩; · omega)
        refine AAny.one 3 4 (by kernel_rfl) (by kernel_rfl) (by kernel_rfl) ?_
        simp -dsimp -implicitDefEqProofs (disch := omega) [go_sem, -List.getD_eq_getElem?_getD, ite_yes, hlt, hz, ht, c1, c2, e1, e3, e4, hkl]
        first | refine AAt.of (by first | exact SubH.refl | exact SubH.app | exact SubH.both (by simp [subL])) ?_ | (refine ⟨?_, AAt.of (by first | exact SubH.refl | exact SubH.app | exact SubH.both (by simp [subL])) ?_⟩; · omega)
        refine AAny.one 2 7 (by kernel_rfl) (by kernel_rfl) (by kernel_rfl) ?_
        simp -dsimp -implicitDefEqProofs (disch := omega) [go_sem, -List.getD_eq_getElem?_getD, ite_yes, hlt, hz, ht, c1, c2, e1, e3, e4, hkl]
        first | refine AAt.of (by first | exact SubH.refl | exact SubH.app | exact SubH.both (by simp [subL])) ?_ | (refine ⟨?_, AAt.of (by first | exact SubH.refl | exact SubH.app | exact SubH.both (by simp [subL])) ?_⟩; · omega)
        refine AAny.one 1 11 (by kernel_rfl) (by kernel_rfl) (by kernel_rfl) ?_
        simp -dsimp -implicitDefEqProofs (disch := omega) [go_sem, -List.getD_eq_getElem?_getD, ite_yes, hlt, hz, ht, c1, c2, e1, e3, e4, hkl]
        first | refine AAt.of (by first | exact SubH.refl | exact SubH.app | exact SubH.both (by simp [subL])) ?_ | (refine ⟨?_, AAt.of (by first | exact SubH.refl | exact SubH.app | exact SubH.both (by simp [subL])) ?_⟩; · omega)
        refine AAny.takes (fuel := 0) (by kernel_rfl) (by kernel_rfl) [12] (by kernel_rfl) (by kernel_rfl) ?_
        simp -dsimp -implicitDefEqProofs (disch := omega) [go_sem, -List.getD_eq_getElem?_getD, ite_yes, hlt, hz, ht, c1, c2, e1, e3, e4, hkl]
        refine AAny.done (by kernel_rfl) ?_
        simp -dsimp -implicitDefEqProofs (disch := omega) [go_sem, -List.getD_eq_getElem?_getD, ite_yes, hlt, hz, ht, c1, c2, e1, e3, e4, hkl]
        refine fin_list [some 4] rfl ?_ (by simp -dsimp -implicitDefEqProofs (disch := omega) [go_sem, -List.getD_eq_getElem?_getD, ite_yes, e4])
        simp -dsimp -implicitDefEqProofs (disch := omega) [go_sem, -List.getD_eq_getElem?_getD, ite_yes]
        exact .inl ⟨efin, efin ▸ nmE_flat _⟩
    · obtain rfl : k = l.length := by omega
      rw [Nat.sub_self] at c2 e3 e4
      rw [List.drop_length] at c2 efin
      rw [List.take_length] at c1 e1 efin
      simp only [List.flatMap_nil] at c2 efin
      simp -dsimp -implicitDefEqProofs (disch := omega) [go_sem, -List.getD_eq_getElem?_getD, ite_yes, hlt, hz, ht]
      refine ADraw.any H (by kernel_rfl) (by first | exact SubH.refl | exact SubH.app | exact SubH.both (by simp [subL])) ?_
      refine AAny.takes (fuel := 6) (by kernel_rfl) (by kernel_rfl) [1, 2, 3, 5, 8, 9, 10] (by kernel_rfl) (by kernel_rfl) ?_
      simp -dsimp -implicitDefEqProofs (disch := omega) [go_sem, -List.getD_eq_getElem?_getD, ite_yes, hlt, hz, ht, c1, c2, e1, e4, hkl]
      refine AAny.two 5 0 6 (by kernel_rfl) (by kernel_rfl) (by kernel_rfl) ?_ ?_
      · simp -dsimp -implicitDefEqProofs (disch := omega) [go_sem, -List.getD_eq_getElem?_getD, ite_yes, hlt, hz, ht, c1, c2, e1, e4, hkl]
        first | refine AAt.of (by first | exact SubH.refl | exact SubH.app | exact SubH.both (by simp [subL])) ?_ | (refine ⟨?_, AAt.of (by first | exact SubH.refl | exact SubH.app | exact SubH.both (by simp [subL])) ?_⟩; · omega)
        refine AAny.two 4 4 6 (by kernel_rfl) (by kernel_rfl) (by kernel_rfl) ?_ ?_
        · simp -dsimp -implicitDefEqProofs (disch := omega) [go_sem, -List.getD_eq_getElem?_getD, ite_yes, hlt, hz, ht, c1, c2, e1, e4, hkl]
          first | refine AAt.of (by first | exact SubH.refl | exact SubH.app | exact SubH.both (by simp [subL])) ?_ | (refine ⟨?_, AAt.of (by first | exact SubH.refl | exact SubH.app | exact SubH.both (by simp [subL])) ?_⟩; · omega)
          refine AAny.one 3 6 (by kernel_rfl) (by kernel_rfl) (by kernel_rfl) ?_
          simp -dsimp -implicitDefEqProofs (disch := omega) [go_sem, -List.getD_eq_getElem?_getD, ite_yes, hlt, hz, ht, c1, c2, e1, e4, hkl]
          first | refine AAt.of (by first | exact SubH.refl | exact SubH.app | exact SubH.both (by simp [subL])) ?_ | (refine ⟨?_, AAt.of (by first | exact SubH.refl | exact SubH.app | exact SubH.both (by simp [subL])) ?_⟩; · omega)
          refine AAny.one 2 7 (by kernel_rfl) (by kernel_rfl) (by kernel_rfl) ?_
          simp -dsimp -implicitDefEqProofs (disch := omega) [go_sem, -List.getD_eq_getElem?_getD, ite_yes, hlt, hz, ht, c1, c2, e1, e4, hkl]
          first | refine AAt.of (by first | exact SubH.refl | exact SubH.app | exact SubH.both (by simp [subL])) ?_ | (refine ⟨?_, AAt.of (by first | exact SubH.refl | exact SubH.app | exact SubH.both (by simp [subL])) ?_⟩; · omega)
          refine AAny.one 1 11 (by kernel_rfl) (by kernel_rfl) (by kernel_rfl) ?_
          simp -dsimp -implicitDefEqProofs (disch := omega) [go_sem, -List.getD_eq_getElem?_getD, ite_yes, hlt, hz, ht, c1, c2, e1, e4, hkl]
          first | refine AAt.of (by first | exact SubH.refl | exact SubH.app | exact SubH.both (by simp [subL])) ?_ | (refine ⟨?_, AAt.of (by first | exact SubH.refl | exact SubH.app | exact SubH.both (by simp [subL])) ?_⟩; · omega)
          refine AAny.takes (fuel := 0) (by kernel_rfl) (by kernel_rfl) [12] (by kernel_rfl) (by kernel_rfl) ?_
          simp -dsimp -implicitDefEqProofs (disch := omega) [go_sem, -List.getD_eq_getElem?_getD, ite_yes, hlt, hz, ht, c1, c2, e1, e4, hkl]
          refine AAny.done (by kernel_rfl) ?_
          simp -dsimp -implicitDefEqProofs (disch := omega) [go_sem, -List.getD_eq_getElem?_getD, ite_yes, hlt, hz, ht, c1, c2, e1, e4, hkl]
          refine fin_list [some 4] rfl ?_ (by simp -dsimp -implicitDefEqProofs (disch := omega) [go_sem, -List.getD_eq_getElem?_getD, ite_yes, e4])
          simp -dsimp -implicitDefEqProofs (disch := omega) [go_sem, -List.getD_eq_getElem?_getD, ite_yes]
          exact .inl ⟨efin, efin ▸ nmE_flat _⟩
        · simp -dsimp -implicitDefEqProofs (disch := omega) [go_sem, -List.getD_eq_getElem?_getD, ite_yes, hlt, hz, ht, c1, c2, e1, e4, hkl]
          first | refine AAt.of (by first | exact SubH.refl | exact SubH.app | exact SubH.both (by simp [subL])) ?_ | (refine ⟨?_, AAt.of (by first | exact SubH.refl | exact SubH.app | exact SubH.both (by simp [subL])) ?_⟩; · omega)
          refine AAny.one 3 4 (by kernel_rfl) (by kernel_rfl) (by kernel_rfl) ?_
          simp -dsimp -implicitDefEqProofs (disch := omega) [go_sem, -List.getD_eq_getElem?_getD, ite_yes, hlt, hz, ht, c1, c2, e1, e4, hkl]
          first | refine AAt.of (by first | exact SubH.refl | exact SubH.app | exact SubH.both (by simp [subL])) ?_ | (refine ⟨?_, AAt.of (by first | exact SubH.refl | exact SubH.app | exact SubH.both (by simp [subL])) ?_⟩; · omega)
          refine AAny.one 2 7 (by kernel_rfl) (by kernel_rfl) (by kernel_rfl) ?_
          simp -dsimp -implicitDefEqProofs (disch := omega) [go_sem, -List.getD_eq_getElem?_getD, ite_yes, hlt, hz, ht, c1, c2, e1, e4, hkl]
          first | refine AAt.of (by first | exact SubH.refl | exact SubH.app | exact SubH.both (by simp [subL])) ?_ | (refine ⟨?_, AAt.of (by first | exact SubH.refl | exact SubH.app | exact SubH.both (by simp [subL])) ?_⟩; · omega)
          refine AAny.one 1 11 (by kernel_rfl) (by kernel_rfl) (by kernel_rfl) ?_
          simp -dsimp -implicitDefEqProofs (disch := omega) [go_sem, -List.getD_eq_getElem?_getD, ite_yes, hlt, hz, ht, c1, c2, e1, e4, hkl]
          first | refine AAt.of (by first | exact SubH.refl | exact SubH.app | exact SubH.both (by simp [subL])) ?_ | (refine ⟨?_, AAt.of (by first | exact SubH.refl | exact SubH.app | exact SubH.both (by simp [subL])) ?_⟩; · omega)
          refine AAny.takes (fuel := 0) (by kernel_rfl) (by kernel_rfl) [12] (by kernel_rfl) (by kernel_rfl) ?_
          simp -dsimp -implicitDefEqProofs (disch := omega) [go_sem, -List.getD_eq_getElem?_getD, ite_yes, hlt, hz, ht, c1, c2, e1, e4, hkl]
          refine AAny.done (by kernel_rfl) ?_
          simp -dsimp -implicitDefEqProofs (disch := omega) [go_sem, -List.getD_eq_getElem?_getD, ite_yes, hlt, hz, ht, c1, c2, e1, e4, hkl]
          refine fin_list [some 4] rfl ?_ (by simp -dsimp -implicitDefEqProofs (disch := omega) [go_sem, -List.getD_eq_getElem?_getD, ite_yes, e4])
          simp -dsimp -implicitDefEqProofs (disch := omega) [go_sem, -List.getD_eq_getElem?_getD, ite_yes]
          exact .inl ⟨efin, efin ▸ nmE_flat _⟩
      · simp -dsimp -implicitDefEqProofs (disch := omega) [go_sem, -List.getD_eq_getElem?_getD, ite_yes, hlt, hz, ht, c1, c2, e1, e4, hkl]
        first | refine AAt.of (by first | exact SubH.refl | exact SubH.app | exact SubH.both (by simp [subL])) ?_ | (refine ⟨?_, AAt.of (by first | exact SubH.refl | exact SubH.app | exact SubH.both (by simp [subL])) ?_⟩; · omega)
        refine AAny.one 4 0 (by kernel_rfl) (by kernel_rfl) (by kernel_rfl) ?_
        simp -dsimp -implicitDefEqProofs (disch := omega) [go_sem, -List.getD_eq_getElem?_getD, ite_yes, hlt, hz, ht, c1, c2, e1, e4, hkl]
        first | refine AAt.of (by first | exact SubH.refl | exact SubH.app | exact SubH.both (by simp [subL])) ?_ | (refine ⟨?_, AAt.of (by first | exact SubH.refl | exact SubH.app | exact SubH.both (by simp [subL])) ?_⟩; · omega)
        refine AAny.one 3 4 (by kernel_rfl) (by kernel_rfl) (by kernel_rfl) ?_
        simp -dsimp -implicitDefEqProofs (disch := omega) [go_sem, -List.getD_eq_getElem?_getD, ite_yes, hlt, hz, ht, c1, c2, e1, e4, hkl]
        first | refine AAt.of (by first | exact SubH.refl | exact SubH.app | exact SubH.both (by simp [subL])) ?_ | (refine ⟨?_, AAt.of (by first | exact SubH.refl | exact SubH.app | exact SubH.both (by simp [subL])) ?_⟩; · omega)
        refine AAny.one 2 7 (by kernel_rfl) (by kernel_rfl) (by kernel_rfl) ?_
        simp -dsimp -implicitDefEqProofs (disch := omega) [go_sem, -List.getD_eq_getElem?_getD, ite_yes, hlt, hz, ht, c1, c2, e1, e4, hkl]
        first | refine AAt.of (by first | exact SubH.refl | exact SubH.app | exact SubH.both (by simp [subL])) ?_ | (refine ⟨?_, AAt.of (by first | exact SubH.refl | exact SubH.app | exact SubH.both (by simp [subL])) ?_⟩; · omega)
        refine AAny.one 1 11 (by kernel_rfl) (by kernel_rfl) (by kernel_rfl) ?_
        simp -dsimp -implicitDefEqProofs (disch := omega) [go_sem, -List.getD_eq_getElem?_getD, ite_yes, hlt, hz, ht, c1, c2, e1, e4, hkl]
        first | refine AAt.of (by first | exact SubH.refl | exact SubH.app | exact SubH.both (by simp [subL])) ?_ | (refine ⟨?_, AAt.of (by first | exact SubH.refl | exact SubH.app | exact SubH.both (by simp [subL])) ?_⟩; · omega)
        refine AAny.takes (fuel := 0) (by kernel_rfl) (by kernel_rfl) [12] (by kernel_rfl) (by kernel_rfl) ?_
        simp -dsimp -implicitDefEqProofs (disch := omega) [go_sem, -List.getD_eq_getElem?_getD, ite_yes, hlt, hz, ht, c1, c2, e1, e4, hkl]
        refine AAny.done (by kernel_rfl) ?_
        simp -dsimp -implicitDefEqProofs (disch := omega) [go_sem, -List.getD_eq_getElem?_getD, ite_yes, hlt, hz, ht, c1, c2, e1, e4, hkl]
        refine fin_list [some 4] rfl ?_ (by simp -dsimp -implicitDefEqProofs (disch := omega) [go_sem, -List.getD_eq_getElem?_getD, ite_yes, e4])
        simp -dsimp -implicitDefEqProofs (disch := omega) [go_sem, -List.getD_eq_getElem?_getD, ite_yes]
        exact .inl ⟨efin, efin ▸ nmE_flat _⟩
def shutAt (id nd : Int) (v : Vl) : Bool := decide (v.2.1 = id) && (decide (v.2.2.1 = nd) && v.2.2.2)
theorem l4Blocked_A (l : List Vl) (hl : l.length ≤ 1048577) (c : Nat) (id nd : Int) (H : Heap) (t : Nat) (hS : Sl vlE H t l) :
    AFunC Tryz.prog 114 [.slice (some ⟨t, 0, none⟩) l.length c, .int .i64 id, .int .i64 nd, .bool true] H (.bool (decide (0 ≤ ixOf (shutAt id nd) l))) H := by
  refine AFunC.of_body Tryz.func114 (by kernel_rfl) rfl (by kernel_rfl) (by simp [Tryz.ntmps114]) ?_
  have ht := hS.lt
  have c1 := fun k hk => hS.cell (s := 4) (fun _ => rfl) vl0 k 1 hk (by omega)
  have c2 := fun k hk => hS.cell (s := 4) (fun _ => rfl) vl0 k 2 hk (by omega)
  have c3 := fun k hk => hS.cell (s := 4) (fun _ => rfl) vl0 k 3 hk (by omega)
  simp only [vlE] at c1 c2 c3
  have hr := found_ix vl0 (shutAt id nd) l
  simp -dsimp -implicitDefEqProofs (disch := omega) [go_sem, -List.getD_eq_getElem?_getD, ite_yes]
  refine ALoop.intro (ι := Nat) (fun k => k ≤ l.length ∧ findTo vl0 (shutAt id nd) l k) (fun k => [(0, .slice (some ⟨t, 0, none⟩) l.length c), (1, .int .i64 id), (2, .int .i64 nd), (3, .bool true), (9, .int .i64 k)]) (fun _ => H) (fun k => l.length - k) 0 ⟨by omega, fun i hi => by omega⟩ ?_ ?_
  · exact weakS_same (by simp -dsimp -implicitDefEqProofs (disch := omega) [go_sem, -List.getD_eq_getElem?_getD, ite_yes, ht])
  · rintro k ⟨hk, hf⟩
    by_cases hlt : k < l.length
    · by_cases h1 : (l.getD k vl0).2.1 = id
      · by_cases h2 : (l.getD k vl0).2.2.1 = nd
        · cases h3 : (l.getD k vl0).2.2.2
          · simp -dsimp -implicitDefEqProofs (disch := omega) [go_sem, -List.getD_eq_getElem?_getD, ite_yes, hlt, c1, c2, c3, h1, h2, h3]
            exact LoopEnd.of (k + 1) ⟨by omega, hf.next (by simp only [shutAt, h3, Bool.and_false])⟩ (by omega) (weakS_same (by simp -dsimp -implicitDefEqProofs (disch := omega) [go_sem, -List.getD_eq_getElem?_getD, ite_yes, ht]))
          · simp -dsimp -implicitDefEqProofs (disch := omega) [go_sem, -List.getD_eq_getElem?_getD, ite_yes, hlt, c1, c2, c3, h1, h2, h3]
            have := found_uniq hr (.yes k hlt (by simp only [shutAt, decide_eq_true h1, decide_eq_true h2, h3, Bool.and_self]) hf)
            exact fin_flat0 rfl (by rw [this, decide_eq_true (by omega)])
        · simp -dsimp -implicitDefEqProofs (disch := omega) [go_sem, -List.getD_eq_getElem?_getD, ite_yes, hlt, c1, c2, c3, h1, h2]
          exact LoopEnd.of (k + 1) ⟨by omega, hf.next (by simp only [shutAt, decide_eq_false h2, Bool.false_and, Bool.and_false])⟩ (by omega) (weakS_same (by simp -dsimp -implicitDefEqProofs (disch := omega) [go_sem, -List.getD_eq_getElem?_getD, ite_yes, ht]))
      · simp -dsimp -implicitDefEqProofs (disch := omega) [go_sem, -List.getD_eq_getElem?_getD, ite_yes, hlt, c1, c2, c3, h1]
        exact LoopEnd.of (k + 1) ⟨by omega, hf.next (by simp only [shutAt, decide_eq_false h1, Bool.false_and])⟩ (by omega) (weakS_same (by simp -dsimp -implicitDefEqProofs (disch := omega) [go_sem, -List.getD_eq_getElem?_getD, ite_yes, ht]))
    · simp -dsimp -implicitDefEqProofs (disch := omega) [go_sem, -List.getD_eq_getElem?_getD, ite_yes, hlt]
      obtain rfl : k = l.length := by omega
      have := found_uniq hr (.no hf)
      exact fin_flat0 rfl (by rw [this]; rfl)
end Go.Proofs.YtncblopbcnkinaaGreat
/- What is reached in a network: the reference's side. -/
namespace Go.Proofs.YtncblopbcnkinaaGreat
open Go.Am
set_option linter.unusedVariables false
set_option linter.unusedSimpArgs false
set_option maxRecDepth 100000
set_option maxHeartbeats 2000000

/-- whether water goes through the end of a pipe -/
def openB (l : List Vl) (p : Pp) (nd : Int) : Bool := !decide (0 ≤ ixOf (shutAt p.1 nd) l)
structure Ix where
  W : List Bool
  ag : Bool
  N : List Int
  P : List Int
  tn : Nat
  cn : Nat
  tm : Nat
  cm : Nat
  K : Heap
/-- what two lists say of the elements -/
structure SpL (W : List Bool) (N P : List Int) (tn tm : Nat) (K : Heap) : Prop where
  w19 : W.length = 19
  sN : Sl nmE K tn N
  zN : blkSz K tn = some 1
  sP : Sl nmE K tm P
  zP : blkSz K tm = some 1
  upN : Up N
  upP : Up P
  memN : ∀ a : Nat, a < 9 → hasI N (a : Int) = W.getD a false
  memP : ∀ j : Nat, j < 10 → hasI P (j : Int) = W.getD (9 + j) false
  len : N.length + P.length ≤ cnt W
def Ix.st (i : Ix) : St := (i.W, i.ag)
theorem SpL.app {W : List Bool} {N P : List Int} {tn tm : Nat} {K L : Heap} (h : SpL W N P tn tm K) : SpL W N P tn tm (K ++ L) :=
  ⟨h.w19, h.sN.app, by rw [blkSz_old h.sN.lt]; exact h.zN, h.sP.app, by rw [blkSz_old h.sP.lt]; exact h.zP, h.upN, h.upP, h.memN, h.memP, h.len⟩
theorem SpL.bound {W : List Bool} {N P : List Int} {tn tm : Nat} {K : Heap} (h : SpL W N P tn tm K) : N.length + P.length ≤ 19 := by
  have := h.len
  have := cnt_le W
  have := h.w19
  omega
theorem getD_set2 {W : List Bool} {a b j : Nat} (ha : a < W.length) (hb : b < W.length) : ((W.set a true).set b true).getD j false = (decide (j = a) || (decide (j = b) || W.getD j false)) := by
  by_cases h1 : j = b
  · subst h1
    rw [getD_set_eq (by simpa using hb)]; simp
  · rw [getD_set_ne (fun h => h1 h.symm), decide_eq_false h1]
    by_cases h2 : j = a
    · subst h2; rw [getD_set_eq ha]; simp
    · rw [getD_set_ne (fun h => h2 h.symm), decide_eq_false h2]; simp
theorem cnt_set2 {W : List Bool} {a b : Nat} (ha : a < W.length) (hb : b < W.length) (hab : a ≠ b) (h : W.getD a false ≠ W.getD b false) : cnt ((W.set a true).set b true) = cnt W + 1 := by
  have c1 := cnt_set W a ha
  have c2 := cnt_set (W.set a true) b (by simpa using hb)
  rw [getD_set_ne hab] at c2
  cases h4 : W.getD a false <;> cases h5 : W.getD b false <;> rw [h4] at c1 h <;> rw [h5] at c2 h <;> simp at c1 c2 h <;> omega
/-- the node is put into its list -/
theorem SpL.putN {W : List Bool} {N P : List Int} {tn tm : Nat} {K : Heap} (h : SpL W N P tn tm K) {a k : Nat} (ha : a < 9) (hk : k < 10) (hn : hasI N (a : Int) = false) (hp : hasI P (k : Int) = true) :
    SpL ((W.set a true).set (9 + k) true) (putL N a) P K.length tm (K ++ [some ⟨(putL N a).flatMap nmE, true, 3, 1⟩]) := by
  have e1 := h.memN a ha
  have e2 := h.memP k hk
  rw [hn] at e1; rw [hp] at e2
  have hw := h.w19
  have hap := h.app (L := [some ⟨(putL N a).flatMap nmE, true, 3, 1⟩])
  refine ⟨by simp [hw], Sl.of rfl, by simp [blkSz_len, blkSz_cons], hap.sP, hap.zP, h.upN.put (of_decide_eq_false hn), h.upP, fun j hj => ?_, fun j hj => ?_, ?_⟩
  · rw [hasI_put, h.memN j hj, getD_set2 (by omega) (by omega)]
    rw [show decide ((j : Int) = (a : Int)) = decide (j = a) by rw [decide_eq_decide]; omega, decide_eq_false (show ¬ j = 9 + k by omega), Bool.false_or]
  · rw [h.memP j hj, getD_set2 (by omega) (by omega), decide_eq_false (show ¬ 9 + j = a by omega), Bool.false_or]
    by_cases hjk : j = k
    · subst hjk; rw [← e2]; simp
    · rw [decide_eq_false (show ¬ 9 + j = 9 + k by omega), Bool.false_or]
  · rw [putL_length, cnt_set2 (by omega) (by omega) (by omega) (by rw [← e1, ← e2]; simp)]
    have := h.len
    omega
/-- the pipe is put into its list -/
theorem SpL.putP {W : List Bool} {N P : List Int} {tn tm : Nat} {K : Heap} (h : SpL W N P tn tm K) {a k : Nat} (ha : a < 9) (hk : k < 10) (hn : hasI N (a : Int) = true) (hp : hasI P (k : Int) = false) :
    SpL ((W.set a true).set (9 + k) true) N (putL P k) tn K.length (K ++ [some ⟨(putL P k).flatMap nmE, true, 3, 1⟩]) := by
  have e1 := h.memN a ha
  have e2 := h.memP k hk
  rw [hn] at e1; rw [hp] at e2
  have hw := h.w19
  have hap := h.app (L := [some ⟨(putL P k).flatMap nmE, true, 3, 1⟩])
  refine ⟨by simp [hw], hap.sN, hap.zN, Sl.of rfl, by simp [blkSz_len, blkSz_cons], h.upN, h.upP.put (of_decide_eq_false hp), fun j hj => ?_, fun j hj => ?_, ?_⟩
  · rw [h.memN j hj, getD_set2 (by omega) (by omega), decide_eq_false (show ¬ j = 9 + k by omega), Bool.false_or]
    by_cases hja : j = a
    · subst hja; rw [← e1]; simp
    · rw [decide_eq_false hja, Bool.false_or]
  · rw [hasI_put, h.memP j hj, getD_set2 (by omega) (by omega), decide_eq_false (show ¬ 9 + j = a by omega), Bool.false_or]
    rw [show decide ((j : Int) = (k : Int)) = decide (9 + j = 9 + k) by rw [decide_eq_decide]; omega]
  · rw [putL_length, cnt_set2 (by omega) (by omega) (by omega) (by rw [← e1, ← e2]; simp)]
    have := h.len
    omega
theorem rep_getD (n i : Nat) : (List.replicate n false).getD i false = false := by
  rw [List.getD_eq_getElem?_getD, List.getElem?_replicate]
  split <;> rfl
theorem rep_cnt : ∀ n : Nat, cnt (List.replicate n false) = 0
  | 0 => rfl
  | n + 1 => by rw [List.replicate_succ, cnt, rep_cnt n]; rfl
theorem SpL.start {a : Nat} (ha : a < 9) (H : Heap) : SpL (start (a : Int)) [(a : Int)] [] H.length (H.length + 1) (H ++ [some ⟨[.int .i64 a], true, 3, 1⟩, some ⟨[], true, 3, 1⟩]) := by
  have hs : Go.Proofs.YtncblopbcnkinaaGreat.start (a : Int) = (List.replicate 19 false).set a true := by rw [Go.Proofs.YtncblopbcnkinaaGreat.start, Int.toNat_natCast]
  have hl : (List.replicate 19 false).length = 19 := List.length_replicate
  refine ⟨start_length _, Sl.of rfl, by simp [blkSz_len, blkSz_cons], Sl.of1 rfl, by simp [blkSz_len_add, blkSz_cons], up_one _, up_nil, fun j hj => ?_, fun j hj => ?_, ?_⟩
  · rw [hs]
    by_cases h : j = a
    · subst h; rw [getD_set_eq (by omega)]; exact decide_eq_true (by simp)
    · rw [getD_set_ne (fun e => h e.symm), rep_getD]
      exact decide_eq_false (by simp; omega)
  · rw [hs, getD_set_ne (by omega), rep_getD]
    exact decide_eq_false (by simp)
  · have c1 := cnt_set (List.replicate 19 false) a (by omega)
    rw [rep_getD, rep_cnt] at c1
    rw [hs]
    simp only [List.length_cons, List.length_nil]
    simp only [Bool.false_eq_true, if_false] at c1
    omega
/-- what the reference's spreading hands out -/
def SprOut (b0 : Nat) (H : Heap) (R : List Bool) (v : Value) (G : Heap) : Prop :=
  ∃ N P tn cn tm cm, v = .tuple #[.slice (some ⟨tn, 0, none⟩) N.length cn, .slice (some ⟨tm, 0, none⟩) P.length cm] ∧ KExt b0 H G ∧ SpL R N P tn tm G
end Go.Proofs.YtncblopbcnkinaaGreat
/- What is reached in a network: the walk through the reference's spreading. -/
namespace Go.Proofs.YtncblopbcnkinaaGreat
open Go.Am
set_option linter.unusedVariables false
set_option linter.unusedSimpArgs false
set_option maxRecDepth 100000
set_option maxHeartbeats 4000000

theorem wm_net {n : Int} {t len c h : Nat} (ht : t < h) (σ : Sig) (m : Nat) (hs : ∀ t, t < h → σ t = some t) (hm : h ≤ m) : L2 (WM σ m) [.int .i64 n, .slice (some ⟨t, 0, none⟩) len c] [.int .i64 n, .slice (some ⟨t, 0, none⟩) len c] :=
  have h1 : t < m := by omega
  ⟨rfl, ⟨h1, .inl ⟨t, c, hs t ht, rfl⟩⟩, trivial⟩
/-- the state of the spreading -/
structure KI (b0 tp len cp : Nat) (H : Heap) (i : Ix) : Prop where
  kx : KExt b0 H i.K
  klt : H.length < i.K.length
  net : aCells i.K ⟨H.length, 1, none⟩ 1 = some [.slice (some ⟨tp, 0, none⟩) len cp]
  sp : SpL i.W i.N i.P i.tn i.tm i.K
theorem KI.app {b0 tp len cp : Nat} {H : Heap} {i : Ix} {b : Blk} (h : KI b0 tp len cp H i) (hb : b.xs.all flat = true) : KI b0 tp len cp H { i with K := i.K ++ [some b] } :=
  ⟨h.kx.snoc fun _ _ _ _ => wm_flat hb, by have := h.klt; simp; omega, by rw [aCells_old h.klt]; exact h.net, h.sp.app⟩
/-- a pipe in its block -/
structure PipAt (p1 a b : Int) (tq : Nat) (K : Heap) : Prop where
  lt : tq < K.length
  c0 : aCells K ⟨tq, 0, none⟩ 1 = some [.int .i64 p1]
  c1 : aCells K ⟨tq, 1, none⟩ 1 = some [.int .i64 a]
  c2 : aCells K ⟨tq, 2, none⟩ 1 = some [.int .i64 b]
theorem PipAt.app {p1 a b : Int} {tq : Nat} {K L : Heap} (h : PipAt p1 a b tq K) : PipAt p1 a b tq (K ++ L) :=
  ⟨by have := h.lt; simp; omega, by rw [aCells_old h.lt]; exact h.c0, by rw [aCells_old h.lt]; exact h.c1, by rw [aCells_old h.lt]; exact h.c2⟩
theorem PipAt.new (p1 a b p4 : Int) (K : Heap) : PipAt p1 a b K.length (K ++ [some ⟨[.int .i64 p1, .int .i64 a, .int .i64 b, .int .i64 p4], true, 78, 1⟩]) :=
  ⟨by simp, by simp [aCells_at0, Heap.get_cons, aC1], by simp [aCells_at0, Heap.get_cons, aC1], by simp [aCells_at0, Heap.get_cons, aC1]⟩
theorem stepAt_no {o : Bool} {s : St} {a b : Nat} (h : o = false ∨ s.1.getD a false = s.1.getD b false) : stepAt o s a b = s := by
  unfold stepAt
  rcases h with h | h
  · rw [h, Bool.and_false]; rfl
  · rw [h]; simp
theorem stepAt_yes {o : Bool} {s : St} {a b : Nat} (h : o = true) (h2 : s.1.getD a false ≠ s.1.getD b false) : stepAt o s a b = ((s.1.set a true).set b true, true) := by
  unfold stepAt
  rw [h, Bool.and_true, if_pos (by simpa using h2)]
theorem l4Spread_R (n : Int) (ps : List Pp) (hN : NetAt n ps) (cp : Nat) (l : List Vl) (hl : l.length ≤ 1048577) (c : Nat) (N0 P0 : List Int) (tn cn tm cm : Nat) (W0 : List Bool) (H : Heap) (tp tv : Nat) (hP : Sl ppE H tp ps) (hV : Sl vlE H tv l) (h0 : SpL W0 N0 P0 tn tm H) (b0 : Nat) (hb1 : tp < b0) (hb2 : b0 ≤ H.length) (R : List Bool) (hR : Spr (openB l) ps W0 R) :
    AFunR Tryz.prog 103 [netV n tp ps.length cp, .slice (some ⟨tv, 0, none⟩) l.length c, .bool true, .slice (some ⟨tn, 0, none⟩) N0.length cn, .slice (some ⟨tm, 0, none⟩) P0.length cm] H (SprOut b0 H R) := by
  refine AFunR.of_body Tryz.func103 (by kernel_rfl) rfl (by kernel_rfl) (by simp [Tryz.ntmps103]) ?_
  have htp := hP.lt
  have htv := hV.lt
  have htn0 := h0.sN.lt
  have htm0 := h0.sP.lt
  have hn := hN.f_n
  have hpl := hN.f_len
  simp -dsimp -implicitDefEqProofs (disch := omega) [go_sem, -List.getD_eq_getElem?_getD, ite_yes, htp, htv]
  have kx0 : KExt b0 H (H ++ [some ⟨[.int .i64 n, .slice (some ⟨tp, 0, none⟩) ps.length cp], true, 26, 1⟩]) := (KExt.refl hb2).snoc fun σ m hs hm => wm_net hb1 σ m hs hm
  have ki0 : KI b0 tp ps.length cp H ⟨W0, true, N0, P0, tn, cn, tm, cm, H ++ [some ⟨[.int .i64 n, .slice (some ⟨tp, 0, none⟩) ps.length cp], true, 26, 1⟩]⟩ :=
    ⟨kx0, by simp, by simp [aCells_at0, Heap.get_cons, aC1], h0.app⟩
  refine ALoop.intro (ι := Ix) (fun i => KI b0 tp ps.length cp H i ∧ (i.ag = true → Spr (openB l) ps i.W R) ∧ (i.ag = false → R = i.W)) (fun i => [(1, .slice (some ⟨tv, 0, none⟩) l.length c), (2, .bool true), (3, .slice (some ⟨i.tn, 0, none⟩) i.N.length i.cn), (4, .slice (some ⟨i.tm, 0, none⟩) i.P.length i.cm), (5, .pointer (some ⟨H.length, 0, none⟩)), (12, .bool i.ag)])
    (fun i => i.K) (fun i => 2 * (19 - cnt i.W) + (if i.ag then 1 else 0)) ⟨W0, true, N0, P0, tn, cn, tm, cm, H ++ [some ⟨[.int .i64 n, .slice (some ⟨tp, 0, none⟩) ps.length cp], true, 26, 1⟩]⟩ ⟨ki0, fun _ => hR, fun h => by cases h⟩ ?_ ?_
  · exact weakS_keep kx0 (by simp -dsimp -implicitDefEqProofs (disch := omega) [go_sem, -List.getD_eq_getElem?_getD, ite_yes, htp, htv])
  rintro ⟨W, ag, N, P, un, dn, um, dm, K⟩ ⟨hK, hI1, hI2⟩
  simp only at hK hI1 hI2 ⊢
  have klt : H.length < K.length := hK.klt
  have kn : un < K.length := hK.sp.sN.lt
  have km : um < K.length := hK.sp.sP.lt
  have ktp : tp < K.length := by omega
  have ktv : tv < K.length := by omega
  cases ag with
  | false =>
    simp -dsimp -implicitDefEqProofs (disch := omega) [go_sem, -List.getD_eq_getElem?_getD, ite_yes]
    refine EndR.of _ _ ⟨N, P, un, dn, um, dm, rfl, hK.kx, (hI2 rfl) ▸ hK.sp⟩ (fin_keep hK.kx (by simp -dsimp -implicitDefEqProofs (disch := omega) [go_sem, -List.getD_eq_getElem?_getD, ite_yes, kn, km]))
  | true =>
  have hW19 := hK.sp.w19
  simp only at hW19
  simp -dsimp -implicitDefEqProofs (disch := omega) [go_sem, -List.getD_eq_getElem?_getD, ite_yes, ktp, ktv]
  refine ALoop.intro (ι := Ix × Nat) (fun q => q.2 ≤ ps.length ∧ KI b0 tp ps.length cp H q.1 ∧ q.1.st = psTo (openB l) ps W q.2) (fun q => let i := q.1; [(1, .slice (some ⟨tv, 0, none⟩) l.length c), (2, .bool true), (3, .slice (some ⟨i.tn, 0, none⟩) i.N.length i.cn), (4, .slice (some ⟨i.tm, 0, none⟩) i.P.length i.cm), (5, .pointer (some ⟨H.length, 0, none⟩)), (12, .bool i.ag), (13, .int .i64 q.2)])
    (fun q => q.1.K) (fun q => ps.length - q.2) (⟨W, false, N, P, un, dn, um, dm, K⟩, 0) ⟨by omega, ⟨hK.kx, hK.klt, hK.net, hK.sp⟩, rfl⟩ ?_ ?_
  · exact weakS_keep hK.kx (by simp -dsimp -implicitDefEqProofs (disch := omega) [go_sem, -List.getD_eq_getElem?_getD, ite_yes, klt, kn, km, ktp, ktv])
  clear hK klt kn km ktp ktv
  rintro ⟨⟨V, ag, N, P, un, dn, um, dm, K⟩, k⟩ ⟨hk, hK, hst⟩
  simp only [Ix.st] at hk hK hst ⊢
  have klt : H.length < K.length := hK.klt
  have kn : un < K.length := hK.sp.sN.lt
  have km : um < K.length := hK.sp.sP.lt
  have knet : aCells K ⟨H.length, 1, none⟩ 1 = some [.slice (some ⟨tp, 0, none⟩) ps.length cp] := hK.net
  have ktp : tp < K.length := by omega
  have ktv : tv < K.length := by omega
  by_cases hlt : k < ps.length
  rotate_left
  · obtain rfl : k = ps.length := by omega
    have hinv := psTo_inv hN (openB l) hW19 ps.length (Nat.le_refl _)
    simp -dsimp -implicitDefEqProofs (disch := omega) [go_sem, -List.getD_eq_getElem?_getD, ite_yes, hlt, knet, klt]
    rw [← hst] at hinv
    have e : pass (openB l) ps W = (V, ag) := hst.symm
    refine LoopEnd.of ⟨V, ag, N, P, un, dn, um, dm, K⟩ ⟨hK, fun h => ?_, fun h => ?_⟩ ?_ (weakS_keep hK.kx (by simp -dsimp -implicitDefEqProofs (disch := omega) [go_sem, -List.getD_eq_getElem?_getD, ite_yes, klt, kn, km, ktp, ktv]))
    · have := (hI1 rfl).get_more (by rw [e]; exact h)
      rwa [e] at this
    · have := (hI1 rfl).get_done (by rw [e]; exact h)
      rwa [e] at this
    · have c1 := cnt_le V
      have c2 := hK.sp.w19
      simp only at c2 ⊢
      rcases hinv.2 with h | ⟨h, h'⟩
      · cases h; simp
      · simp only at h h'; subst h; simp only [if_true]; omega
  have hin : psTo (openB l) ps W (k + 1) = inP (openB l) (psTo (openB l) ps W k) k (ps.getD k pp0) 2 := rfl
  have cs := (hK.kx.sl hP).cells (s := 4) (fun _ => rfl) pp0 k hlt
  simp only [ppE] at cs
  have hend := hN.f_end k hlt
  obtain ⟨⟨p1, p2, p3, p4⟩, hpk⟩ : ∃ p, ps.getD k pp0 = p := ⟨_, rfl⟩
  rw [← hst] at hin
  simp only [hpk] at hin hend cs
  obtain ⟨a, rfl⟩ : ∃ a : Nat, p2 = (a : Int) := ⟨p2.toNat, by omega⟩
  obtain ⟨b, rfl⟩ : ∃ b : Nat, p3 = (b : Int) := ⟨p3.toNat, by omega⟩
  have i1 : ∀ s0 : St, inP (openB l) s0 k (p1, (a : Int), (b : Int), p4) 1 = stepAt (openB l (p1, (a : Int), (b : Int), p4) (a : Int)) (inP (openB l) s0 k (p1, (a : Int), (b : Int), p4) 0) a (9 + k) := fun s0 => rfl
  have i2 : ∀ s0 : St, inP (openB l) s0 k (p1, (a : Int), (b : Int), p4) 2 = stepAt (openB l (p1, (a : Int), (b : Int), p4) (b : Int)) (inP (openB l) s0 k (p1, (a : Int), (b : Int), p4) 1) b (9 + k) := fun s0 => rfl
  generalize hs0 : (V, ag) = s0 at hin
  simp -dsimp -implicitDefEqProofs (disch := omega) [go_sem, -List.getD_eq_getElem?_getD, ite_yes, hlt, cs, knet, klt, ktp]
  have hK3 : KI b0 tp ps.length cp H ⟨V, ag, N, P, un, dn, um, dm, K ++ [some ⟨[.int .i64 p1, .int .i64 a, .int .i64 b, .int .i64 p4], true, 78, 1⟩]⟩ := hK.app (b := ⟨[.int .i64 p1, .int .i64 a, .int .i64 b, .int .i64 p4], true, 78, 1⟩) rfl
  refine ALoop.intro (ι := Ix × Nat) (fun q => q.2 ≤ 2 ∧ KI b0 tp ps.length cp H q.1 ∧ PipAt p1 a b K.length q.1.K ∧ q.1.st = inP (openB l) s0 k (p1, (a : Int), (b : Int), p4) q.2) (fun q => let i := q.1; [(1, .slice (some ⟨tv, 0, none⟩) l.length c), (2, .bool true), (3, .slice (some ⟨i.tn, 0, none⟩) i.N.length i.cn), (4, .slice (some ⟨i.tm, 0, none⟩) i.P.length i.cm), (5, .pointer (some ⟨H.length, 0, none⟩)), (12, .bool i.ag), (13, .int .i64 k), (14, .pointer (some ⟨K.length, 0, none⟩)), (15, .int .i64 q.2)])
    (fun q => q.1.K) (fun q => 2 - q.2) (⟨V, ag, N, P, un, dn, um, dm, K ++ [some ⟨[.int .i64 p1, .int .i64 a, .int .i64 b, .int .i64 p4], true, 78, 1⟩]⟩, 0) ⟨by omega, hK3, PipAt.new _ _ _ _ _, hs0⟩ ?_ ?_
  · exact weakS_keep hK3.kx (by simp -dsimp -implicitDefEqProofs (disch := omega) [go_sem, -List.getD_eq_getElem?_getD, ite_yes, klt, kn, km, ktp, ktv])
  generalize hq : K.length = tq
  clear hK3 hK klt kn km ktp ktv knet cs hst hs0
  rintro ⟨⟨V, ag, N, P, un, dn, um, dm, K⟩, m⟩ ⟨hm, hK, hPip, hst⟩
  simp only [Ix.st] at hm hK hPip hst ⊢
  have klt : H.length < K.length := hK.klt
  have kn : un < K.length := hK.sp.sN.lt
  have km : um < K.length := hK.sp.sP.lt
  have knet : aCells K ⟨H.length, 1, none⟩ 1 = some [.slice (some ⟨tp, 0, none⟩) ps.length cp] := hK.net
  have ktp : tp < K.length := by omega
  have ktv : tv < K.length := by omega
  have ktq : tq < K.length := hPip.lt
  have q0 := hPip.c0
  have q1 := hPip.c1
  have q2 := hPip.c2
  have hbd : N.length + P.length ≤ 19 := hK.sp.bound
  by_cases hm2 : m < 2
  rotate_left
  · obtain rfl : m = 2 := by omega
    simp -dsimp -implicitDefEqProofs (disch := omega) [go_sem, -List.getD_eq_getElem?_getD, ite_yes]
    exact LoopEnd.of (⟨V, ag, N, P, un, dn, um, dm, K⟩, k + 1) ⟨by omega, hK, by rw [hin]; exact hst⟩ (by omega) (weakS_keep hK.kx (by simp -dsimp -implicitDefEqProofs (disch := omega) [go_sem, -List.getD_eq_getElem?_getD, ite_yes, klt, kn, km, ktp, ktv]))
  have hm01 : m = 0 ∨ m = 1 := by omega
  rcases hm01 with rfl | rfl
  · have ii := i1 s0
    rw [← hst] at ii
    have hx : a < 9 := by omega
    have hk10 : k < 10 := by omega
    have mN := hK.sp.memN a hx
    have mP := hK.sp.memP k hk10
    simp only at mN mP
    have hKe : KI b0 tp ps.length cp H ⟨V, ag, N, P, un, dn, um, dm, K ++ [some ⟨[.int .i64 a, .int .i64 b], true, 3, 1⟩]⟩ := hK.app (b := ⟨[.int .i64 a, .int .i64 b], true, 3, 1⟩) rfl
    have eo : openB l (p1, (a : Int), (b : Int), p4) (a : Int) = !decide (0 ≤ ixOf (shutAt p1 (a : Int)) l) := rfl
    simp -dsimp -implicitDefEqProofs (disch := omega) [go_sem, -List.getD_eq_getElem?_getD, ite_yes, klt, knet, ktq, q0, q1, q2]
    refine ACall.of (l4Blocked_A l hl c p1 (a : Int) _ tv (hKe.kx.sl hV)) ?_
    cases hb : decide (0 ≤ ixOf (shutAt p1 (a : Int)) l)
    rotate_left
    · rw [hb] at eo
      simp -dsimp -implicitDefEqProofs (disch := omega) [go_sem, -List.getD_eq_getElem?_getD, ite_yes]
      exact LoopEnd.of (⟨V, ag, N, P, un, dn, um, dm, K ++ [some ⟨[.int .i64 a, .int .i64 b], true, 3, 1⟩]⟩, 1) ⟨by omega, hKe, hPip.app, by rw [ii, stepAt_no (.inl eo)]⟩ (by omega) (weakS_keep hKe.kx (by simp -dsimp -implicitDefEqProofs (disch := omega) [go_sem, -List.getD_eq_getElem?_getD, ite_yes, klt, kn, km, ktp, ktv, ktq]))
    rw [hb] at eo
    simp -dsimp -implicitDefEqProofs (disch := omega) [go_sem, -List.getD_eq_getElem?_getD, ite_yes, klt, kn, km]
    refine ACall.of (l1Has_A N (a : Int) (by omega) dn _ un hKe.sp.sN) ?_
    simp -dsimp -implicitDefEqProofs (disch := omega) [go_sem, -List.getD_eq_getElem?_getD, ite_yes, klt, kn, km]
    refine ACall.of (l1Has_A P (k : Int) (by omega) dm _ um hKe.sp.sP) ?_
    cases h1 : hasI N (a : Int) <;> cases h2 : hasI P (k : Int)
    · simp -dsimp -implicitDefEqProofs (disch := omega) [go_sem, -List.getD_eq_getElem?_getD, ite_yes]
      exact LoopEnd.of (⟨V, ag, N, P, un, dn, um, dm, K ++ [some ⟨[.int .i64 a, .int .i64 b], true, 3, 1⟩]⟩, 1) ⟨by omega, hKe, hPip.app, by rw [ii, stepAt_no (.inr (by show V.getD _ _ = V.getD _ _; rw [← mN, ← mP, h1, h2]))]⟩ (by omega) (weakS_keep hKe.kx (by simp -dsimp -implicitDefEqProofs (disch := omega) [go_sem, -List.getD_eq_getElem?_getD, ite_yes, klt, kn, km, ktp, ktv, ktq]))
    · simp -dsimp -implicitDefEqProofs (disch := omega) [go_sem, -List.getD_eq_getElem?_getD, ite_yes]
      refine ACall.of (l1Put_new N (a : Int) (by omega) hK.sp.upN h1 dn _ un hKe.sp.sN hKe.sp.zN) ?_
      simp -dsimp -implicitDefEqProofs (disch := omega) [go_sem, -List.getD_eq_getElem?_getD, ite_yes]
      refine ACall.of (l1Put_in P (k : Int) (by omega) hK.sp.upP h2 dm _ um hK.sp.sP.app) ?_
      simp -dsimp -implicitDefEqProofs (disch := omega) [go_sem, -List.getD_eq_getElem?_getD, ite_yes]
      have hsp := hKe.sp.putN hx hk10 h1 h2
      have hKf : KI b0 tp ps.length cp H ⟨(V.set a true).set (9 + k) true, true, putL N a, P, K.length + 1, N.length + 1, um, dm, K ++ [some ⟨[.int .i64 a, .int .i64 b], true, 3, 1⟩, some ⟨(putL N (a : Int)).flatMap nmE, true, 3, 1⟩]⟩ := by
        have h9 := hKe.app (b := ⟨(putL N (a : Int)).flatMap nmE, true, 3, 1⟩) (nmE_flat _)
        refine ⟨?_, ?_, ?_, ?_⟩
        · simpa using h9.kx
        · simpa using h9.klt
        · simpa using h9.net
        · simpa using hsp
      exact LoopEnd.of (⟨(V.set a true).set (9 + k) true, true, putL N a, P, K.length + 1, N.length + 1, um, dm, K ++ [some ⟨[.int .i64 a, .int .i64 b], true, 3, 1⟩, some ⟨(putL N (a : Int)).flatMap nmE, true, 3, 1⟩]⟩, 1) ⟨by omega, hKf, hPip.app, by rw [ii, stepAt_yes eo (by show V.getD _ _ ≠ V.getD _ _; rw [← mN, ← mP, h1, h2]; simp)]⟩ (by omega) (weakS_keep hKf.kx (by simp -dsimp -implicitDefEqProofs (disch := omega) [go_sem, -List.getD_eq_getElem?_getD, ite_yes, klt, kn, km, ktp, ktv, ktq, putL_length]))
    · simp -dsimp -implicitDefEqProofs (disch := omega) [go_sem, -List.getD_eq_getElem?_getD, ite_yes]
      refine ACall.of (l1Put_in N (a : Int) (by omega) hK.sp.upN h1 dn _ un hKe.sp.sN) ?_
      simp -dsimp -implicitDefEqProofs (disch := omega) [go_sem, -List.getD_eq_getElem?_getD, ite_yes]
      refine ACall.of (l1Put_new P (k : Int) (by omega) hK.sp.upP h2 dm _ um hKe.sp.sP hKe.sp.zP) ?_
      simp -dsimp -implicitDefEqProofs (disch := omega) [go_sem, -List.getD_eq_getElem?_getD, ite_yes]
      have hsp := hKe.sp.putP hx hk10 h1 h2
      have hKf : KI b0 tp ps.length cp H ⟨(V.set a true).set (9 + k) true, true, N, putL P k, un, dn, K.length + 1, P.length + 1, K ++ [some ⟨[.int .i64 a, .int .i64 b], true, 3, 1⟩, some ⟨(putL P (k : Int)).flatMap nmE, true, 3, 1⟩]⟩ := by
        have h9 := hKe.app (b := ⟨(putL P (k : Int)).flatMap nmE, true, 3, 1⟩) (nmE_flat _)
        refine ⟨?_, ?_, ?_, ?_⟩
        · simpa using h9.kx
        · simpa using h9.klt
        · simpa using h9.net
        · simpa using hsp
      exact LoopEnd.of (⟨(V.set a true).set (9 + k) true, true, N, putL P k, un, dn, K.length + 1, P.length + 1, K ++ [some ⟨[.int .i64 a, .int .i64 b], true, 3, 1⟩, some ⟨(putL P (k : Int)).flatMap nmE, true, 3, 1⟩]⟩, 1) ⟨by omega, hKf, hPip.app, by rw [ii, stepAt_yes eo (by show V.getD _ _ ≠ V.getD _ _; rw [← mN, ← mP, h1, h2]; simp)]⟩ (by omega) (weakS_keep hKf.kx (by simp -dsimp -implicitDefEqProofs (disch := omega) [go_sem, -List.getD_eq_getElem?_getD, ite_yes, klt, kn, km, ktp, ktv, ktq, putL_length]))
    · simp -dsimp -implicitDefEqProofs (disch := omega) [go_sem, -List.getD_eq_getElem?_getD, ite_yes]
      exact LoopEnd.of (⟨V, ag, N, P, un, dn, um, dm, K ++ [some ⟨[.int .i64 a, .int .i64 b], true, 3, 1⟩]⟩, 1) ⟨by omega, hKe, hPip.app, by rw [ii, stepAt_no (.inr (by show V.getD _ _ = V.getD _ _; rw [← mN, ← mP, h1, h2]))]⟩ (by omega) (weakS_keep hKe.kx (by simp -dsimp -implicitDefEqProofs (disch := omega) [go_sem, -List.getD_eq_getElem?_getD, ite_yes, klt, kn, km, ktp, ktv, ktq]))
  · have ii := i2 s0
    rw [← hst] at ii
    have hx : b < 9 := by omega
    have hk10 : k < 10 := by omega
    have mN := hK.sp.memN b hx
    have mP := hK.sp.memP k hk10
    simp only at mN mP
    have hKe : KI b0 tp ps.length cp H ⟨V, ag, N, P, un, dn, um, dm, K ++ [some ⟨[.int .i64 a, .int .i64 b], true, 3, 1⟩]⟩ := hK.app (b := ⟨[.int .i64 a, .int .i64 b], true, 3, 1⟩) rfl
    have eo : openB l (p1, (a : Int), (b : Int), p4) (b : Int) = !decide (0 ≤ ixOf (shutAt p1 (b : Int)) l) := rfl
    simp -dsimp -implicitDefEqProofs (disch := omega) [go_sem, -List.getD_eq_getElem?_getD, ite_yes, klt, knet, ktq, q0, q1, q2]
    refine ACall.of (l4Blocked_A l hl c p1 (b : Int) _ tv (hKe.kx.sl hV)) ?_
    cases hb : decide (0 ≤ ixOf (shutAt p1 (b : Int)) l)
    rotate_left
    · rw [hb] at eo
      simp -dsimp -implicitDefEqProofs (disch := omega) [go_sem, -List.getD_eq_getElem?_getD, ite_yes]
      exact LoopEnd.of (⟨V, ag, N, P, un, dn, um, dm, K ++ [some ⟨[.int .i64 a, .int .i64 b], true, 3, 1⟩]⟩, 2) ⟨by omega, hKe, hPip.app, by rw [ii, stepAt_no (.inl eo)]⟩ (by omega) (weakS_keep hKe.kx (by simp -dsimp -implicitDefEqProofs (disch := omega) [go_sem, -List.getD_eq_getElem?_getD, ite_yes, klt, kn, km, ktp, ktv, ktq]))
    rw [hb] at eo
    simp -dsimp -implicitDefEqProofs (disch := omega) [go_sem, -List.getD_eq_getElem?_getD, ite_yes, klt, kn, km]
    refine ACall.of (l1Has_A N (b : Int) (by omega) dn _ un hKe.sp.sN) ?_
    simp -dsimp -implicitDefEqProofs (disch := omega) [go_sem, -List.getD_eq_getElem?_getD, ite_yes, klt, kn, km]
    refine ACall.of (l1Has_A P (k : Int) (by omega) dm _ um hKe.sp.sP) ?_
    cases h1 : hasI N (b : Int) <;> cases h2 : hasI P (k : Int)
    · simp -dsimp -implicitDefEqProofs (disch := omega) [go_sem, -List.getD_eq_getElem?_getD, ite_yes]
      exact LoopEnd.of (⟨V, ag, N, P, un, dn, um, dm, K ++ [some ⟨[.int .i64 a, .int .i64 b], true, 3, 1⟩]⟩, 2) ⟨by omega, hKe, hPip.app, by rw [ii, stepAt_no (.inr (by show V.getD _ _ = V.getD _ _; rw [← mN, ← mP, h1, h2]))]⟩ (by omega) (weakS_keep hKe.kx (by simp -dsimp -implicitDefEqProofs (disch := omega) [go_sem, -List.getD_eq_getElem?_getD, ite_yes, klt, kn, km, ktp, ktv, ktq]))
    · simp -dsimp -implicitDefEqProofs (disch := omega) [go_sem, -List.getD_eq_getElem?_getD, ite_yes]
      refine ACall.of (l1Put_new N (b : Int) (by omega) hK.sp.upN h1 dn _ un hKe.sp.sN hKe.sp.zN) ?_
      simp -dsimp -implicitDefEqProofs (disch := omega) [go_sem, -List.getD_eq_getElem?_getD, ite_yes]
      refine ACall.of (l1Put_in P (k : Int) (by omega) hK.sp.upP h2 dm _ um hK.sp.sP.app) ?_
      simp -dsimp -implicitDefEqProofs (disch := omega) [go_sem, -List.getD_eq_getElem?_getD, ite_yes]
      have hsp := hKe.sp.putN hx hk10 h1 h2
      have hKf : KI b0 tp ps.length cp H ⟨(V.set b true).set (9 + k) true, true, putL N b, P, K.length + 1, N.length + 1, um, dm, K ++ [some ⟨[.int .i64 a, .int .i64 b], true, 3, 1⟩, some ⟨(putL N (b : Int)).flatMap nmE, true, 3, 1⟩]⟩ := by
        have h9 := hKe.app (b := ⟨(putL N (b : Int)).flatMap nmE, true, 3, 1⟩) (nmE_flat _)
        refine ⟨?_, ?_, ?_, ?_⟩
        · simpa using h9.kx
        · simpa using h9.klt
        · simpa using h9.net
        · simpa using hsp
      exact LoopEnd.of (⟨(V.set b true).set (9 + k) true, true, putL N b, P, K.length + 1, N.length + 1, um, dm, K ++ [some ⟨[.int .i64 a, .int .i64 b], true, 3, 1⟩, some ⟨(putL N (b : Int)).flatMap nmE, true, 3, 1⟩]⟩, 2) ⟨by omega, hKf, hPip.app, by rw [ii, stepAt_yes eo (by show V.getD _ _ ≠ V.getD _ _; rw [← mN, ← mP, h1, h2]; simp)]⟩ (by omega) (weakS_keep hKf.kx (by simp -dsimp -implicitDefEqProofs (disch := omega) [go_sem, -List.getD_eq_getElem?_getD, ite_yes, klt, kn, km, ktp, ktv, ktq, putL_length]))
    · simp -dsimp -implicitDefEqProofs (disch := omega) [go_sem, -List.getD_eq_getElem?_getD, ite_yes]
      refine ACall.of (l1Put_in N (b : Int) (by omega) hK.sp.upN h1 dn _ un hKe.sp.sN) ?_
      simp -dsimp -implicitDefEqProofs (disch := omega) [go_sem, -List.getD_eq_getElem?_getD, ite_yes]
      refine ACall.of (l1Put_new P (k : Int) (by omega) hK.sp.upP h2 dm _ um hKe.sp.sP hKe.sp.zP) ?_
      simp -dsimp -implicitDefEqProofs (disch := omega) [go_sem, -List.getD_eq_getElem?_getD, ite_yes]
      have hsp := hKe.sp.putP hx hk10 h1 h2
      have hKf : KI b0 tp ps.length cp H ⟨(V.set b true).set (9 + k) true, true, N, putL P k, un, dn, K.length + 1, P.length + 1, K ++ [some ⟨[.int .i64 a, .int .i64 b], true, 3, 1⟩, some ⟨(putL P (k : Int)).flatMap nmE, true, 3, 1⟩]⟩ := by
        have h9 := hKe.app (b := ⟨(putL P (k : Int)).flatMap nmE, true, 3, 1⟩) (nmE_flat _)
        refine ⟨?_, ?_, ?_, ?_⟩
        · simpa using h9.kx
        · simpa using h9.klt
        · simpa using h9.net
        · simpa using hsp
      exact LoopEnd.of (⟨(V.set b true).set (9 + k) true, true, N, putL P k, un, dn, K.length + 1, P.length + 1, K ++ [some ⟨[.int .i64 a, .int .i64 b], true, 3, 1⟩, some ⟨(putL P (k : Int)).flatMap nmE, true, 3, 1⟩]⟩, 2) ⟨by omega, hKf, hPip.app, by rw [ii, stepAt_yes eo (by show V.getD _ _ ≠ V.getD _ _; rw [← mN, ← mP, h1, h2]; simp)]⟩ (by omega) (weakS_keep hKf.kx (by simp -dsimp -implicitDefEqProofs (disch := omega) [go_sem, -List.getD_eq_getElem?_getD, ite_yes, klt, kn, km, ktp, ktv, ktq, putL_length]))
    · simp -dsimp -implicitDefEqProofs (disch := omega) [go_sem, -List.getD_eq_getElem?_getD, ite_yes]
      exact LoopEnd.of (⟨V, ag, N, P, un, dn, um, dm, K ++ [some ⟨[.int .i64 a, .int .i64 b], true, 3, 1⟩]⟩, 2) ⟨by omega, hKe, hPip.app, by rw [ii, stepAt_no (.inr (by show V.getD _ _ = V.getD _ _; rw [← mN, ← mP, h1, h2]))]⟩ (by omega) (weakS_keep hKe.kx (by simp -dsimp -implicitDefEqProofs (disch := omega) [go_sem, -List.getD_eq_getElem?_getD, ite_yes, klt, kn, km, ktp, ktv, ktq]))
end Go.Proofs.YtncblopbcnkinaaGreat
/- What is reached in a network: the program's side. -/
namespace Go.Proofs.YtncblopbcnkinaaGreat
open Go.Am
set_option linter.unusedVariables false
set_option linter.unusedSimpArgs false
set_option maxRecDepth 100000
set_option maxHeartbeats 2000000

/-- the elements, none of them reached -/
def zerosB : List Value := List.replicate 19 (.bool false)
theorem zerosB_eq : ([Value.bool false, Value.bool false, Value.bool false, Value.bool false, Value.bool false, Value.bool false, Value.bool false, Value.bool false, Value.bool false, Value.bool false, Value.bool false, Value.bool false, Value.bool false, Value.bool false, Value.bool false, Value.bool false, Value.bool false, Value.bool false, Value.bool false] : List Value) = zerosB := rfl
theorem zerosB_length : zerosB.length = 19 := rfl
theorem zerosB_start (s : Nat) : zerosB.set s (.bool true) = (start (s : Int)).map .bool := by
  rw [start, Int.toNat_natCast, List.map_set, List.map_replicate]; rfl
theorem bl_cell (s : List Bool) {q : Nat} (hq : q < s.length) : List.take 1 (List.drop q (s.map Value.bool)) = [.bool (s.getD q false)] := by
  rw [List.getD_eq_getElem?_getD, List.getElem?_eq_getElem hq]
  rw [List.drop_eq_getElem_cons (by simpa using hq)]
  simp
theorem bl_set (s : List Bool) (x : Bool) (q : Nat) : (s.map Value.bool).set q (.bool x) = (s.set q x).map Value.bool := by rw [List.map_set]
theorem bl_flat (s : List Bool) : (s.map Value.bool).all flat = true := by simp [flat]
theorem element_A (i : Nat) (hi : i < 10) (H : Heap) : AFunC Tryz.prog 86 [.int .i64 i] H (.int .i64 (9 + (i : Int))) H := by
  refine AFunC.of_body Tryz.func86 (by kernel_rfl) rfl (by kernel_rfl) (by simp [Tryz.ntmps86]) ?_
  simp -dsimp -implicitDefEqProofs (disch := omega) [go_sem, -List.getD_eq_getElem?_getD, ite_yes]
  exact fin_flat0 rfl rfl
theorem inP_length {n : Int} {ps : List Pp} (h : NetAt n ps) (op : Pp → Int → Bool) {W : List Bool} (hW : W.length = 19) {k : Nat} (hk : k < ps.length) (m : Nat) : (inP op (psTo op ps W k) k (ps.getD k pp0) m).1.length = 19 :=
  (inP_inv h op hW (psTo_inv h op hW k (by omega)) hk m).1.trans hW
theorem reached_A (n : Int) (ps : List Pp) (hN : NetAt n ps) (cp : Nat) (node : Int) (hnode : 1 ≤ node ∧ node ≤ n) (op : Pp → Int → Bool) (g : Nat) (cap : Array Value) (H : Heap) (tp : Nat) (hP : Sl ppE H tp ps) (Pre : Heap → Prop) (hpre : ∀ L, Pre (roH (H ++ L)))
    (hc : L2 (WMP (sg H.length []) H.length) cap.toList cap.toList) (hc0 : ∀ m, H.length ≤ m → ∀ js, L2 (WMP (sg H.length js) m) cap.toList cap.toList)
    (hp : ∀ K, Pre K → ∀ (p : Pp) (nd : Int), AFunC Tryz.prog g (.agg #[.int .i64 p.1, .int .i64 p.2.1, .int .i64 p.2.2.1, .int .i64 p.2.2.2] :: .int .i64 nd :: cap.toList) K (.bool (op p nd)) K) :
    AFunC Tryz.prog 81 [netV n tp ps.length cp, .int .i64 node, .func (.func g) #[] cap] H (.pointer (some ⟨H.length, 0, none⟩)) (H ++ [some ⟨(reach op ps node).map .bool, true, 111, 1⟩]) := by
  refine AFunC.of_body Tryz.func81 (by kernel_rfl) rfl (by kernel_rfl) (by simp [Tryz.ntmps81]) ?_
  have htp := hP.lt
  have hn := hN.f_n
  have hl := hN.f_len
  have cs := fun k hk => hP.cells (s := 4) (fun _ => rfl) pp0 k hk
  simp only [ppE] at cs
  obtain ⟨s, rfl⟩ : ∃ s : Nat, node = (s : Int) := ⟨node.toNat, by omega⟩
  have hs : s < 19 := by omega
  simp -dsimp -implicitDefEqProofs (disch := omega) [go_sem, -List.getD_eq_getElem?_getD, ite_yes, zerosB_eq, zerosB_length, htp, hs]
  generalize hR : reach op ps (s : Int) = R
  have hspr : Spr op ps (start (s : Int)) R := hR ▸ spr_reach hN op s
  refine ALoop.intro (ι := St) (fun st => st.1.length = 19 ∧ (st.2 = true → Spr op ps st.1 R) ∧ (st.2 = false → R = st.1)) (fun st => [(2, .func (.func g) #[] cap), (3, .pointer (some ⟨H.length, 0, none⟩)), (7, .pointer (some ⟨H.length + 1, 0, none⟩)), (8, .bool st.2)])
    (fun st => H ++ [some ⟨[.int .i64 n, .slice (some ⟨tp, 0, none⟩) ps.length cp], true, 26, 1⟩, some ⟨st.1.map .bool, true, 111, 1⟩]) (fun st => 2 * (19 - cnt st.1) + (if st.2 then 1 else 0)) (start (s : Int), true) ⟨start_length _, fun _ => hspr, fun h => by cases h⟩ ?_ ?_
  · refine weakS_mk [some 0, some 1] rfl ?_ (by simp -dsimp -implicitDefEqProofs (disch := omega) [go_sem, -List.getD_eq_getElem?_getD, ite_yes, htp]; exact hc0 _ (by omega) _)
    simp -dsimp -implicitDefEqProofs (disch := omega) [go_sem, -List.getD_eq_getElem?_getD, ite_yes, htp]
    exact ⟨wl_net htp, .inl ⟨(zerosB_start s).symm, by rw [zerosB_start]; exact bl_flat _⟩⟩
  rintro ⟨W, again⟩ ⟨hW, hI1, hI2⟩
  simp only at hW hI1 hI2
  cases again with
  | false =>
    simp -dsimp -implicitDefEqProofs (disch := omega) [go_sem, -List.getD_eq_getElem?_getD, ite_yes]
    refine fin_list [some 1] rfl ?_ (by simp -dsimp -implicitDefEqProofs (disch := omega) [go_sem, -List.getD_eq_getElem?_getD, ite_yes])
    simp -dsimp -implicitDefEqProofs (disch := omega) [go_sem, -List.getD_eq_getElem?_getD, ite_yes]
    exact .inl ⟨by rw [hI2 rfl], bl_flat _⟩
  | true =>
  simp -dsimp -implicitDefEqProofs (disch := omega) [go_sem, -List.getD_eq_getElem?_getD, ite_yes, htp]
  refine ALoop.intro (ι := Nat) (fun k => k ≤ ps.length) (fun k => [(2, .func (.func g) #[] cap), (3, .pointer (some ⟨H.length, 0, none⟩)), (7, .pointer (some ⟨H.length + 1, 0, none⟩)), (8, .bool (psTo op ps W k).2), (21, .slice (some ⟨tp, 0, none⟩) ps.length cp), (22, .int .i64 ps.length), (23, .int .i64 k)])
    (fun k => H ++ [some ⟨[.int .i64 n, .slice (some ⟨tp, 0, none⟩) ps.length cp], true, 26, 1⟩, some ⟨(psTo op ps W k).1.map .bool, true, 111, 1⟩]) (fun k => ps.length - k) 0 (by omega) ?_ ?_
  · refine weakS_mk [some 0, some 1] rfl ?_ (by simp -dsimp -implicitDefEqProofs (disch := omega) [go_sem, -List.getD_eq_getElem?_getD, ite_yes, htp, psTo]; exact hc0 _ (by omega) _)
    simp -dsimp -implicitDefEqProofs (disch := omega) [go_sem, -List.getD_eq_getElem?_getD, ite_yes, htp]
    exact ⟨wl_net htp, .inl ⟨rfl, bl_flat _⟩⟩
  intro k hk
  by_cases hlt : k < ps.length
  rotate_left
  · obtain rfl : k = ps.length := by omega
    have hinv := psTo_inv hN op hW ps.length (Nat.le_refl _)
    simp -dsimp -implicitDefEqProofs (disch := omega) [go_sem, -List.getD_eq_getElem?_getD, ite_yes, hlt]
    refine LoopEnd.of (pass op ps W) ⟨hinv.1.trans hW, fun h => (hI1 rfl).get_more h, fun h => (hI1 rfl).get_done h⟩ ?_ (weakS_mk [some 0, some 1] rfl ?_ (by simp -dsimp -implicitDefEqProofs (disch := omega) [go_sem, -List.getD_eq_getElem?_getD, ite_yes, htp]; exact ⟨hc0 (H.length + 2) (by omega) _, rfl⟩))
    · rcases hinv.2 with h | ⟨h, h'⟩
      · have e : pass op ps W = (W, false) := h
        rw [e]; simp
      · have e : pass op ps W = psTo op ps W ps.length := rfl
        have := cnt_le (psTo op ps W ps.length).1
        have := hinv.1
        rw [e, h]; simp only [if_true]; omega
    · simp -dsimp -implicitDefEqProofs (disch := omega) [go_sem, -List.getD_eq_getElem?_getD, ite_yes, htp]
      exact ⟨wl_net htp, .inl ⟨rfl, bl_flat _⟩⟩
  have hin : psTo op ps W (k + 1) = inP op (psTo op ps W k) k (ps.getD k pp0) 2 := rfl
  have hlen := fun m => inP_length hN op hW hlt m
  have hend := hN.f_end k hlt
  have cs' := cs k hlt
  obtain ⟨⟨p1, p2, p3, p4⟩, hpk⟩ : ∃ p, ps.getD k pp0 = p := ⟨_, rfl⟩
  simp only [hpk] at hin hlen hend cs'
  obtain ⟨a, rfl⟩ : ∃ a : Nat, p2 = (a : Int) := ⟨p2.toNat, by omega⟩
  obtain ⟨b, rfl⟩ : ∃ b : Nat, p3 = (b : Int) := ⟨p3.toNat, by omega⟩
  have i1 : ∀ s0 : St, inP op s0 k (p1, (a : Int), (b : Int), p4) 1 = stepAt (op (p1, (a : Int), (b : Int), p4) (a : Int)) (inP op s0 k (p1, (a : Int), (b : Int), p4) 0) a (9 + k) := fun s0 => rfl
  have i2 : ∀ s0 : St, inP op s0 k (p1, (a : Int), (b : Int), p4) 2 = stepAt (op (p1, (a : Int), (b : Int), p4) (b : Int)) (inP op s0 k (p1, (a : Int), (b : Int), p4) 1) b (9 + k) := fun s0 => rfl
  generalize psTo op ps W k = s0 at *
  simp -dsimp -implicitDefEqProofs (disch := omega) [go_sem, -List.getD_eq_getElem?_getD, ite_yes, hlt, cs', htp]
  refine ALoop.intro (ι := Nat) (fun m => m ≤ 2) (fun m => [(2, .func (.func g) #[] cap), (3, .pointer (some ⟨H.length, 0, none⟩)), (7, .pointer (some ⟨H.length + 1, 0, none⟩)), (8, .bool (inP op s0 k (p1, (a : Int), (b : Int), p4) m).2), (9, .int .i64 k), (10, .pointer (some ⟨H.length + 2, 0, none⟩)), (21, .slice (some ⟨tp, 0, none⟩) ps.length cp), (22, .int .i64 ps.length), (23, .int .i64 k), (32, .slice (some ⟨H.length + 3, 0, none⟩) 2 2), (33, .int .i64 2), (34, .int .i64 m)])
    (fun m => H ++ [some ⟨[.int .i64 n, .slice (some ⟨tp, 0, none⟩) ps.length cp], true, 26, 1⟩, some ⟨(inP op s0 k (p1, (a : Int), (b : Int), p4) m).1.map .bool, true, 111, 1⟩, some ⟨[.int .i64 p1, .int .i64 a, .int .i64 b, .int .i64 p4], true, 78, 1⟩, some ⟨[.int .i64 a, .int .i64 b], true, 3, 1⟩]) (fun m => 2 - m) 0 (by omega) ?_ ?_
  · refine weakS_mk [some 0, some 1, some 2, some 3] rfl ?_ (by simp -dsimp -implicitDefEqProofs (disch := omega) [go_sem, -List.getD_eq_getElem?_getD, ite_yes, htp, inP]; exact hc0 _ (by omega) _)
    simp -dsimp -implicitDefEqProofs (disch := omega) [go_sem, -List.getD_eq_getElem?_getD, ite_yes, htp]
    exact ⟨wl_net htp, .inl ⟨rfl, bl_flat _⟩, .inl ⟨rfl, rfl⟩, .inl ⟨rfl, rfl⟩⟩
  intro m hm
  by_cases hm2 : m < 2
  rotate_left
  · obtain rfl : m = 2 := by omega
    simp -dsimp -implicitDefEqProofs (disch := omega) [go_sem, -List.getD_eq_getElem?_getD, ite_yes]
    refine LoopEnd.of (k + 1) (by omega) (by omega) (weakS_mk [some 0, some 1] rfl ?_ (by simp -dsimp -implicitDefEqProofs (disch := omega) [go_sem, -List.getD_eq_getElem?_getD, ite_yes, htp, hin]; exact hc0 _ (by omega) _))
    simp -dsimp -implicitDefEqProofs (disch := omega) [go_sem, -List.getD_eq_getElem?_getD, ite_yes, htp]
    exact ⟨wl_net htp, .inl ⟨by rw [hin], bl_flat _⟩⟩
  have hm01 : m = 0 ∨ m = 1 := by omega
  rcases hm01 with rfl | rfl
  · have hl1 := hlen 0
    have hx : a < 9 := by omega
    obtain ⟨⟨V, f⟩, hV⟩ : ∃ v, inP op s0 k (p1, (a : Int), (b : Int), p4) 0 = v := ⟨_, rfl⟩
    have ii := i1 s0
    rw [hV] at hl1 ii
    simp only at hl1
    simp only [hV]
    have hxa : a < V.length := by omega
    have hxb : 9 + k < V.length := by omega
    have c1 := bl_cell V hxa
    have c2 := bl_cell V hxb
    have hA := fun L => hp _ (hpre L) (p1, (a : Int), (b : Int), p4) (a : Int)
    simp -dsimp -implicitDefEqProofs (disch := omega) [go_sem, -List.getD_eq_getElem?_getD, ite_yes, htp, hl1, hx, hxa]
    refine ADraw.quiet (by kernel_rfl) (by kernel_rfl) (by kernel_rfl) ?_
    have hk9 : (9 + (k : Int)).toNat = 9 + k := by omega
    have hk10 : k + 9 < 19 := by omega
    simp -dsimp -implicitDefEqProofs (disch := omega) [go_sem, -List.getD_eq_getElem?_getD, ite_yes, htp, hl1, hx, hxa, c1]
    refine ACallQ.of (element_A k (by omega) _) rfl ?_
    simp -dsimp -implicitDefEqProofs (disch := omega) [go_sem, -List.getD_eq_getElem?_getD, ite_yes, htp, hl1, hx, hxa, c1, c2, hk9]
    refine AIf.of (fun h1 => ?_) (fun h1 => ?_)
    rotate_left
    · have e : inP op s0 k (p1, (a : Int), (b : Int), p4) 1 = (V, f) := by
        rw [ii, stepAt]
        simp only [Bool.not_eq_false'] at h1
        simp only [bne, h1]; rfl
      simp -dsimp -implicitDefEqProofs (disch := omega) [go_sem, -List.getD_eq_getElem?_getD, ite_yes]
      refine LoopEnd.of 1 (by omega) (by omega) (weakS_mk [some 0, some 1, some 2, some 3] rfl ?_ (by simp -dsimp -implicitDefEqProofs (disch := omega) [go_sem, -List.getD_eq_getElem?_getD, ite_yes, htp, e]; exact hc0 _ (by omega) _))
      simp -dsimp -implicitDefEqProofs (disch := omega) [go_sem, -List.getD_eq_getElem?_getD, ite_yes, htp, e]
      exact ⟨wl_net htp, .inl ⟨rfl, bl_flat _⟩, .inl ⟨rfl, rfl⟩, .inl ⟨rfl, rfl⟩⟩
    simp -dsimp -implicitDefEqProofs (disch := omega) [go_sem, -List.getD_eq_getElem?_getD, ite_yes]
    refine ACallQ.of (hA _) rfl ?_
    cases ho : op (p1, (a : Int), (b : Int), p4) (a : Int)
    · have e : inP op s0 k (p1, (a : Int), (b : Int), p4) 1 = (V, f) := by
        rw [ii, stepAt, ho, Bool.and_false]; rfl
      simp -dsimp -implicitDefEqProofs (disch := omega) [go_sem, -List.getD_eq_getElem?_getD, ite_yes]
      refine LoopEnd.of 1 (by omega) (by omega) (weakS_mk [some 0, some 1, some 2, some 3] rfl ?_ (by simp -dsimp -implicitDefEqProofs (disch := omega) [go_sem, -List.getD_eq_getElem?_getD, ite_yes, htp, e]; exact hc0 _ (by omega) _))
      simp -dsimp -implicitDefEqProofs (disch := omega) [go_sem, -List.getD_eq_getElem?_getD, ite_yes, htp, e]
      exact ⟨wl_net htp, .inl ⟨rfl, bl_flat _⟩, .inl ⟨rfl, rfl⟩, .inl ⟨rfl, rfl⟩⟩
    · have e : inP op s0 k (p1, (a : Int), (b : Int), p4) 1 = ((V.set a true).set (9 + k) true, true) := by
        rw [ii, stepAt, ho, Bool.and_true]
        simp only [bne, h1]; rfl
      have b1 := bl_set V true a
      have b2 := bl_set (V.set a true) true (9 + k)
      have b3 : (V.set a true).length = 19 := by rw [List.length_set, hl1]
      simp -dsimp -implicitDefEqProofs (disch := omega) [go_sem, -List.getD_eq_getElem?_getD, ite_yes, htp]
      refine ADraw.any H (by kernel_rfl) (by first | exact SubH.refl | exact SubH.app | exact SubH.both (by simp [subL])) ?_
      refine AAny.takes (fuel := 6) (by kernel_rfl) (by kernel_rfl) [0, 1, 2, 3, 5, 8] (by kernel_rfl) (by kernel_rfl) ?_
      simp -dsimp -implicitDefEqProofs (disch := omega) [go_sem, -List.getD_eq_getElem?_getD, ite_yes, htp, hl1, hx, hxa, hk9]
      refine AAny.one 5 4 (by kernel_rfl) (by kernel_rfl) (by kernel_rfl) ?_
      simp -dsimp -implicitDefEqProofs (disch := omega) [go_sem, -List.getD_eq_getElem?_getD, ite_yes, htp, hl1, hx, hxa, hk9]
      refine ACall.of (element_A k (by omega) _) ?_
      simp -dsimp -implicitDefEqProofs (disch := omega) [go_sem, -List.getD_eq_getElem?_getD, ite_yes, htp, hl1, hx, hxa, hk9]
      first | refine AAt.of (by first | exact SubH.refl | exact SubH.app | exact SubH.both (by simp [subL])) ?_ | (refine ⟨?_, AAt.of (by first | exact SubH.refl | exact SubH.app | exact SubH.both (by simp [subL])) ?_⟩; · omega)
      refine AAny.takes (fuel := 4) (by kernel_rfl) (by kernel_rfl) [6] (by kernel_rfl) (by kernel_rfl) ?_
      simp -dsimp -implicitDefEqProofs (disch := omega) [go_sem, -List.getD_eq_getElem?_getD, ite_yes, htp, hl1, hx, hxa, hk9]
      refine AAny.one 3 7 (by kernel_rfl) (by kernel_rfl) (by kernel_rfl) ?_
      simp -dsimp -implicitDefEqProofs (disch := omega) [go_sem, -List.getD_eq_getElem?_getD, ite_yes, htp, hl1, hx, hxa, hk9]
      first | refine AAt.of (by first | exact SubH.refl | exact SubH.app | exact SubH.both (by simp [subL])) ?_ | (refine ⟨?_, AAt.of (by first | exact SubH.refl | exact SubH.app | exact SubH.both (by simp [subL])) ?_⟩; · omega)
      refine AAny.takes (fuel := 2) (by kernel_rfl) (by kernel_rfl) [9] (by kernel_rfl) (by kernel_rfl) ?_
      simp -dsimp -implicitDefEqProofs (disch := omega) [go_sem, -List.getD_eq_getElem?_getD, ite_yes, htp, hl1, hx, hxa, hk9]
      refine AAny.one 1 10 (by kernel_rfl) (by kernel_rfl) (by kernel_rfl) ?_
      simp -dsimp -implicitDefEqProofs (disch := omega) [go_sem, -List.getD_eq_getElem?_getD, ite_yes, htp, hl1, hx, hxa, hk9]
      first | refine AAt.of (by first | exact SubH.refl | exact SubH.app | exact SubH.both (by simp [subL])) ?_ | (refine ⟨?_, AAt.of (by first | exact SubH.refl | exact SubH.app | exact SubH.both (by simp [subL])) ?_⟩; · omega)
      refine AAny.takes (fuel := 0) (by kernel_rfl) (by kernel_rfl) [11] (by kernel_rfl) (by kernel_rfl) ?_
      simp -dsimp -implicitDefEqProofs (disch := omega) [go_sem, -List.getD_eq_getElem?_getD, ite_yes, htp, hl1, hx, hxa, hk9]
      refine AAny.done (by kernel_rfl) ?_
      simp -dsimp -implicitDefEqProofs (disch := omega) [go_sem, -List.getD_eq_getElem?_getD, ite_yes, htp, hl1, hx, hxa, hk9]
      refine LoopEnd.of 1 (by omega) (by omega) (weakS_mk [some 0, some 1, some 2, some 3] rfl ?_ (by simp -dsimp -implicitDefEqProofs (disch := omega) [go_sem, -List.getD_eq_getElem?_getD, ite_yes, htp, e]; exact hc0 _ (by omega) _))
      simp -dsimp -implicitDefEqProofs (disch := omega) [go_sem, -List.getD_eq_getElem?_getD, ite_yes, htp, e]
      exact ⟨wl_net htp, .inl ⟨by simp only [List.map_set], by simp only [← List.map_set]; exact bl_flat _⟩, .inl ⟨rfl, rfl⟩, .inl ⟨rfl, rfl⟩⟩
  · have hl1 := hlen 1
    have hx : b < 9 := by omega
    obtain ⟨⟨V, f⟩, hV⟩ : ∃ v, inP op s0 k (p1, (a : Int), (b : Int), p4) 1 = v := ⟨_, rfl⟩
    have ii := i2 s0
    rw [hV] at hl1 ii
    simp only at hl1
    simp only [hV]
    have hxa : b < V.length := by omega
    have hxb : 9 + k < V.length := by omega
    have c1 := bl_cell V hxa
    have c2 := bl_cell V hxb
    have hA := fun L => hp _ (hpre L) (p1, (a : Int), (b : Int), p4) (b : Int)
    simp -dsimp -implicitDefEqProofs (disch := omega) [go_sem, -List.getD_eq_getElem?_getD, ite_yes, htp, hl1, hx, hxa]
    refine ADraw.quiet (by kernel_rfl) (by kernel_rfl) (by kernel_rfl) ?_
    have hk9 : (9 + (k : Int)).toNat = 9 + k := by omega
    have hk10 : k + 9 < 19 := by omega
    simp -dsimp -implicitDefEqProofs (disch := omega) [go_sem, -List.getD_eq_getElem?_getD, ite_yes, htp, hl1, hx, hxa, c1]
    refine ACallQ.of (element_A k (by omega) _) rfl ?_
    simp -dsimp -implicitDefEqProofs (disch := omega) [go_sem, -List.getD_eq_getElem?_getD, ite_yes, htp, hl1, hx, hxa, c1, c2, hk9]
    refine AIf.of (fun h1 => ?_) (fun h1 => ?_)
    rotate_left
    · have e : inP op s0 k (p1, (a : Int), (b : Int), p4) 2 = (V, f) := by
        rw [ii, stepAt]
        simp only [Bool.not_eq_false'] at h1
        simp only [bne, h1]; rfl
      simp -dsimp -implicitDefEqProofs (disch := omega) [go_sem, -List.getD_eq_getElem?_getD, ite_yes]
      refine LoopEnd.of 2 (by omega) (by omega) (weakS_mk [some 0, some 1, some 2, some 3] rfl ?_ (by simp -dsimp -implicitDefEqProofs (disch := omega) [go_sem, -List.getD_eq_getElem?_getD, ite_yes, htp, e]; exact hc0 _ (by omega) _))
      simp -dsimp -implicitDefEqProofs (disch := omega) [go_sem, -List.getD_eq_getElem?_getD, ite_yes, htp, e]
      exact ⟨wl_net htp, .inl ⟨rfl, bl_flat _⟩, .inl ⟨rfl, rfl⟩, .inl ⟨rfl, rfl⟩⟩
    simp -dsimp -implicitDefEqProofs (disch := omega) [go_sem, -List.getD_eq_getElem?_getD, ite_yes]
    refine ACallQ.of (hA _) rfl ?_
    cases ho : op (p1, (a : Int), (b : Int), p4) (b : Int)
    · have e : inP op s0 k (p1, (a : Int), (b : Int), p4) 2 = (V, f) := by
        rw [ii, stepAt, ho, Bool.and_false]; rfl
      simp -dsimp -implicitDefEqProofs (disch := omega) [go_sem, -List.getD_eq_getElem?_getD, ite_yes]
      refine LoopEnd.of 2 (by omega) (by omega) (weakS_mk [some 0, some 1, some 2, some 3] rfl ?_ (by simp -dsimp -implicitDefEqProofs (disch := omega) [go_sem, -List.getD_eq_getElem?_getD, ite_yes, htp, e]; exact hc0 _ (by omega) _))
      simp -dsimp -implicitDefEqProofs (disch := omega) [go_sem, -List.getD_eq_getElem?_getD, ite_yes, htp, e]
      exact ⟨wl_net htp, .inl ⟨rfl, bl_flat _⟩, .inl ⟨rfl, rfl⟩, .inl ⟨rfl, rfl⟩⟩
    · have e : inP op s0 k (p1, (a : Int), (b : Int), p4) 2 = ((V.set b true).set (9 + k) true, true) := by
        rw [ii, stepAt, ho, Bool.and_true]
        simp only [bne, h1]; rfl
      have b1 := bl_set V true b
      have b2 := bl_set (V.set b true) true (9 + k)
      have b3 : (V.set b true).length = 19 := by rw [List.length_set, hl1]
      simp -dsimp -implicitDefEqProofs (disch := omega) [go_sem, -List.getD_eq_getElem?_getD, ite_yes, htp]
      refine ADraw.any H (by kernel_rfl) (by first | exact SubH.refl | exact SubH.app | exact SubH.both (by simp [subL])) ?_
      refine AAny.takes (fuel := 6) (by kernel_rfl) (by kernel_rfl) [0, 1, 2, 3, 5, 8] (by kernel_rfl) (by kernel_rfl) ?_
      simp -dsimp -implicitDefEqProofs (disch := omega) [go_sem, -List.getD_eq_getElem?_getD, ite_yes, htp, hl1, hx, hxa, hk9]
      refine AAny.one 5 4 (by kernel_rfl) (by kernel_rfl) (by kernel_rfl) ?_
      simp -dsimp -implicitDefEqProofs (disch := omega) [go_sem, -List.getD_eq_getElem?_getD, ite_yes, htp, hl1, hx, hxa, hk9]
      refine ACall.of (element_A k (by omega) _) ?_
      simp -dsimp -implicitDefEqProofs (disch := omega) [go_sem, -List.getD_eq_getElem?_getD, ite_yes, htp, hl1, hx, hxa, hk9]
      first | refine AAt.of (by first | exact SubH.refl | exact SubH.app | exact SubH.both (by simp [subL])) ?_ | (refine ⟨?_, AAt.of (by first | exact SubH.refl | exact SubH.app | exact SubH.both (by simp [subL])) ?_⟩; · omega)
      refine AAny.takes (fuel := 4) (by kernel_rfl) (by kernel_rfl) [6] (by kernel_rfl) (by kernel_rfl) ?_
      simp -dsimp -implicitDefEqProofs (disch := omega) [go_sem, -List.getD_eq_getElem?_getD, ite_yes, htp, hl1, hx, hxa, hk9]
      refine AAny.one 3 7 (by kernel_rfl) (by kernel_rfl) (by kernel_rfl) ?_
      simp -dsimp -implicitDefEqProofs (disch := omega) [go_sem, -List.getD_eq_getElem?_getD, ite_yes, htp, hl1, hx, hxa, hk9]
      first | refine AAt.of (by first | exact SubH.refl | exact SubH.app | exact SubH.both (by simp [subL])) ?_ | (refine ⟨?_, AAt.of (by first | exact SubH.refl | exact SubH.app | exact SubH.both (by simp [subL])) ?_⟩; · omega)
      refine AAny.takes (fuel := 2) (by kernel_rfl) (by kernel_rfl) [9] (by kernel_rfl) (by kernel_rfl) ?_
      simp -dsimp -implicitDefEqProofs (disch := omega) [go_sem, -List.getD_eq_getElem?_getD, ite_yes, htp, hl1, hx, hxa, hk9]
      refine AAny.one 1 10 (by kernel_rfl) (by kernel_rfl) (by kernel_rfl) ?_
      simp -dsimp -implicitDefEqProofs (disch := omega) [go_sem, -List.getD_eq_getElem?_getD, ite_yes, htp, hl1, hx, hxa, hk9]
      first | refine AAt.of (by first | exact SubH.refl | exact SubH.app | exact SubH.both (by simp [subL])) ?_ | (refine ⟨?_, AAt.of (by first | exact SubH.refl | exact SubH.app | exact SubH.both (by simp [subL])) ?_⟩; · omega)
      refine AAny.takes (fuel := 0) (by kernel_rfl) (by kernel_rfl) [11] (by kernel_rfl) (by kernel_rfl) ?_
      simp -dsimp -implicitDefEqProofs (disch := omega) [go_sem, -List.getD_eq_getElem?_getD, ite_yes, htp, hl1, hx, hxa, hk9]
      refine AAny.done (by kernel_rfl) ?_
      simp -dsimp -implicitDefEqProofs (disch := omega) [go_sem, -List.getD_eq_getElem?_getD, ite_yes, htp, hl1, hx, hxa, hk9]
      refine LoopEnd.of 2 (by omega) (by omega) (weakS_mk [some 0, some 1, some 2, some 3] rfl ?_ (by simp -dsimp -implicitDefEqProofs (disch := omega) [go_sem, -List.getD_eq_getElem?_getD, ite_yes, htp, e]; exact hc0 _ (by omega) _))
      simp -dsimp -implicitDefEqProofs (disch := omega) [go_sem, -List.getD_eq_getElem?_getD, ite_yes, htp, e]
      exact ⟨wl_net htp, .inl ⟨by simp only [List.map_set], by simp only [← List.map_set]; exact bl_flat _⟩, .inl ⟨rfl, rfl⟩, .inl ⟨rfl, rfl⟩⟩
end Go.Proofs.YtncblopbcnkinaaGreat
/- Dry nodes and pipes: both sides. -/
namespace Go.Proofs.YtncblopbcnkinaaGreat
open Go.Am
set_option linter.unusedVariables false
set_option linter.unusedSimpArgs false
set_option maxRecDepth 100000
set_option maxHeartbeats 4000000

/-- the dry nodes up to k, and the dry pipes below k -/
def dryN (R : List Bool) : Nat → List Int
  | 0 => []
  | k + 1 => if R.getD (k + 1) false then dryN R k else dryN R k ++ [((k + 1 : Nat) : Int)]
def dryP (R : List Bool) : Nat → List Int
  | 0 => []
  | k + 1 => if R.getD (9 + k) false then dryP R k else dryP R k ++ [(k : Int)]
theorem dryN_length (R : List Bool) : ∀ k, (dryN R k).length ≤ k
  | 0 => Nat.le_refl _
  | k + 1 => by have := dryN_length R k; rw [dryN]; split <;> simp <;> omega
theorem dryP_length (R : List Bool) : ∀ k, (dryP R k).length ≤ k
  | 0 => Nat.le_refl _
  | k + 1 => by have := dryP_length R k; rw [dryP]; split <;> simp <;> omega
/-- what water reaches -/
def wetR (ps : List Pp) (l : List Vl) (src : Int) : List Bool := reach (openB l) ps src
theorem wetR_length {n : Int} {ps : List Pp} (h : NetAt n ps) (l : List Vl) (src : Int) : (wetR ps l src).length = 19 := reach_length h _ _
theorem l4Dry_A (n : Int) (ps : List Pp) (hN : NetAt n ps) (cp : Nat) (l : List Vl) (hl : l.length ≤ 1048577) (c : Nat) (src : Int) (hsrc : 1 ≤ src ∧ src ≤ n) (H : Heap) (tp tv : Nat) (hP : Sl ppE H tp ps) (hV : Sl vlE H tv l) :
    AFunC Tryz.prog 73 [netV n tp ps.length cp, .slice (some ⟨tv, 0, none⟩) l.length c, .int .i64 src] H
      (.tuple #[.slice (some ⟨H.length, 0, none⟩) (dryN (wetR ps l src) n.toNat).length 0, .slice (some ⟨H.length + 1, 0, none⟩) (dryP (wetR ps l src) ps.length).length 0])
      (H ++ [some ⟨(dryN (wetR ps l src) n.toNat).flatMap nmE, true, 3, 1⟩, some ⟨(dryP (wetR ps l src) ps.length).flatMap nmE, true, 3, 1⟩]) := by
  refine AFunC.of_body Tryz.func73 (by kernel_rfl) rfl (by kernel_rfl) (by simp [Tryz.ntmps73]) ?_
  have htp := hP.lt
  have htv := hV.lt
  have hn := hN.f_n
  have hpl := hN.f_len
  obtain ⟨s, rfl⟩ : ∃ s : Nat, src = (s : Int) := ⟨src.toNat, by omega⟩
  obtain ⟨q, rfl⟩ : ∃ q : Nat, n = (q : Int) := ⟨n.toNat, by omega⟩
  generalize hR : wetR ps l (s : Int) = R
  have hspr : Spr (openB l) ps (start (s : Int)) R := hR ▸ spr_reach hN _ _
  rw [Int.toNat_natCast]
  simp -dsimp -implicitDefEqProofs (disch := omega) [go_sem, -List.getD_eq_getElem?_getD, ite_yes, htp, htv]
  have hsp := SpL.start (show s < 9 by omega) (H ++ [some ⟨[.int .i64 (q : Int), .slice (some ⟨tp, 0, none⟩) ps.length cp], true, 26, 1⟩])
  have r := l4Spread_R (q : Int) ps hN cp l hl c [(s : Int)] [] (H.length + 1) 1 (H.length + 2) 0 (start (s : Int)) (H ++ [some ⟨[.int .i64 (q : Int), .slice (some ⟨tp, 0, none⟩) ps.length cp], true, 26, 1⟩, some ⟨[.int .i64 (s : Int)], true, 3, 1⟩, some ⟨[], true, 3, 1⟩]) tp tv hP.app hV.app (by simpa using hsp) (tp + 1) (by omega) (by simp; omega) R hspr
  refine ACall.via r ?_
  rintro v K ⟨N, P, un, dn, um, dm, rfl, kx1, sp⟩
  have kx0 : KExt (tp + 1) H (H ++ [some ⟨[.int .i64 (q : Int), .slice (some ⟨tp, 0, none⟩) ps.length cp], true, 26, 1⟩, some ⟨[.int .i64 (s : Int)], true, 3, 1⟩, some ⟨[], true, 3, 1⟩]) := by
    have := (((KExt.refl (b0 := tp + 1) (H := H) (by omega)).snoc (b := ⟨[.int .i64 (q : Int), .slice (some ⟨tp, 0, none⟩) ps.length cp], true, 26, 1⟩) (wm_net (by omega))).flat (xs := [.int .i64 (s : Int)]) (o := true) (e := 3) (z := 1) rfl).flat (xs := []) (o := true) (e := 3) (z := 1) rfl
    simpa using this
  have net0 : aCells K ⟨H.length, 0, none⟩ 1 = some [.int .i64 (q : Int)] := by
    obtain ⟨L, rfl⟩ := kx1.drop
    simp [aCells_at0, Heap.get_cons, aC1]
  have net1 : aCells K ⟨H.length, 1, none⟩ 1 = some [.slice (some ⟨tp, 0, none⟩) ps.length cp] := by
    obtain ⟨L, rfl⟩ := kx1.drop
    simp [aCells_at0, Heap.get_cons, aC1]
  have klt : H.length < K.length := by have := kx1.le; simp at this; omega
  have kx := kx0.trans kx1
  clear kx0 kx1
  have kn := sp.sN.lt
  have km := sp.sP.lt
  have hbd := sp.bound
  simp -dsimp -implicitDefEqProofs (disch := omega) [go_sem, -List.getD_eq_getElem?_getD, ite_yes]
  refine ALoop.intro (ι := Nat) (fun k => k ≤ q) (fun k => [(3, .pointer (some ⟨H.length, 0, none⟩)), (8, .slice (some ⟨un, 0, none⟩) N.length dn), (9, .slice (some ⟨um, 0, none⟩) P.length dm), (10, .slice (some ⟨K.length, 0, none⟩) (dryN R k).length 0), (11, .slice (some ⟨K.length + 1, 0, none⟩) 0 0), (12, .int .i64 ((k : Int) + 1))])
    (fun k => K ++ [some ⟨(dryN R k).flatMap nmE, true, 3, 1⟩, some ⟨[], true, 3, 1⟩]) (fun k => q - k) 0 (by omega) ?_ ?_
  · refine weakS_kmk kx [some 0, some 1] rfl ?_ (by simp -dsimp -implicitDefEqProofs (disch := omega) [go_sem, -List.getD_eq_getElem?_getD, ite_yes, klt, kn, km, dryN])
    simp -dsimp -implicitDefEqProofs (disch := omega) [go_sem, -List.getD_eq_getElem?_getD, ite_yes, dryN]
    exact .inl ⟨rfl, rfl⟩
  · intro k hk
    have hdl := dryN_length R k
    have hfl : ((dryN R k).flatMap nmE).length = (dryN R k).length := by rw [nmE_length]; omega
    by_cases hlt : k < q
    · have h1 : (k : Int) + 1 ≤ (q : Int) := by omega
      have mN := sp.memN (k + 1) (by omega)
      rw [show ((k + 1 : Nat) : Int) = (k : Int) + 1 by omega] at mN
      simp -dsimp -implicitDefEqProofs (disch := omega) [go_sem, -List.getD_eq_getElem?_getD, ite_yes, net0, klt, h1]
      refine ACall.of (l1Has_A N ((k : Int) + 1) (by omega) dn _ un sp.sN.app) ?_
      have e : dryN R (k + 1) = if R.getD (k + 1) false then dryN R k else dryN R k ++ [((k + 1 : Nat) : Int)] := rfl
      cases hh : hasI N ((k : Int) + 1)
      · rw [← mN, hh] at e
        simp only [Bool.false_eq_true, if_false] at e
        simp -dsimp -implicitDefEqProofs (disch := omega) [go_sem, -List.getD_eq_getElem?_getD, ite_yes, hfl]
        refine ⟨by omega, LoopEnd.of (k + 1) (by omega) (by omega) (weakS_kmk kx [some 3, some 1] rfl ?_ (by simp -dsimp -implicitDefEqProofs (disch := omega) [go_sem, -List.getD_eq_getElem?_getD, ite_yes, klt, kn, km, e]))⟩
        simp -dsimp -implicitDefEqProofs (disch := omega) [go_sem, -List.getD_eq_getElem?_getD, ite_yes]
        exact ⟨.inl ⟨by rw [e, List.flatMap_append]; rfl, by rw [show List.flatMap nmE (dryN R k) ++ [Value.int IntKind.i64 (↑k + 1)] = List.flatMap nmE (dryN R (k + 1)) by rw [e, List.flatMap_append]; rfl]; exact nmE_flat _⟩, .inl ⟨rfl, rfl⟩⟩
      · rw [← mN, hh, if_pos rfl] at e
        simp -dsimp -implicitDefEqProofs (disch := omega) [go_sem, -List.getD_eq_getElem?_getD, ite_yes]
        refine LoopEnd.of (k + 1) (by omega) (by omega) (weakS_kmk kx [some 0, some 1] rfl ?_ (by simp -dsimp -implicitDefEqProofs (disch := omega) [go_sem, -List.getD_eq_getElem?_getD, ite_yes, klt, kn, km, e]))
        simp -dsimp -implicitDefEqProofs (disch := omega) [go_sem, -List.getD_eq_getElem?_getD, ite_yes]
        exact ⟨.inl ⟨by rw [e], nmE_flat _⟩, .inl ⟨rfl, rfl⟩⟩
    · obtain rfl : k = q := by omega
      have h1 : ¬ (k : Int) + 1 ≤ (k : Int) := by omega
      simp -dsimp -implicitDefEqProofs (disch := omega) [go_sem, -List.getD_eq_getElem?_getD, ite_yes, net0, klt, h1]
      refine ALoop.intro (ι := Nat) (fun j => j ≤ ps.length) (fun j => [(3, .pointer (some ⟨H.length, 0, none⟩)), (8, .slice (some ⟨un, 0, none⟩) N.length dn), (9, .slice (some ⟨um, 0, none⟩) P.length dm), (10, .slice (some ⟨K.length, 0, none⟩) (dryN R k).length 0), (11, .slice (some ⟨K.length + 1, 0, none⟩) (dryP R j).length 0), (13, .int .i64 j)])
        (fun j => K ++ [some ⟨(dryN R k).flatMap nmE, true, 3, 1⟩, some ⟨(dryP R j).flatMap nmE, true, 3, 1⟩]) (fun j => ps.length - j) 0 (by omega) ?_ ?_
      · refine weakS_kmk kx [some 0, some 1] rfl ?_ (by simp -dsimp -implicitDefEqProofs (disch := omega) [go_sem, -List.getD_eq_getElem?_getD, ite_yes, klt, kn, km, dryP])
        simp -dsimp -implicitDefEqProofs (disch := omega) [go_sem, -List.getD_eq_getElem?_getD, ite_yes, dryP]
        exact ⟨.inl ⟨rfl, nmE_flat _⟩, .inl ⟨rfl, rfl⟩⟩
      intro j hj
      have hdp := dryP_length R j
      have hfp : ((dryP R j).flatMap nmE).length = (dryP R j).length := by rw [nmE_length]; omega
      by_cases hlj : j < ps.length
      · have mP := sp.memP j (by omega)
        simp -dsimp -implicitDefEqProofs (disch := omega) [go_sem, -List.getD_eq_getElem?_getD, ite_yes, net1, klt, hlj]
        refine ACall.of (l1Has_A P (j : Int) (by omega) dm _ um sp.sP.app) ?_
        have e : dryP R (j + 1) = if R.getD (9 + j) false then dryP R j else dryP R j ++ [(j : Int)] := rfl
        cases hh : hasI P (j : Int)
        · rw [← mP, hh] at e
          simp only [Bool.false_eq_true, if_false] at e
          simp -dsimp -implicitDefEqProofs (disch := omega) [go_sem, -List.getD_eq_getElem?_getD, ite_yes, hfp]
          refine ⟨by omega, LoopEnd.of (j + 1) (by omega) (by omega) (weakS_kmk kx [some 0, some 3] rfl ?_ (by simp -dsimp -implicitDefEqProofs (disch := omega) [go_sem, -List.getD_eq_getElem?_getD, ite_yes, klt, kn, km, e]))⟩
          simp -dsimp -implicitDefEqProofs (disch := omega) [go_sem, -List.getD_eq_getElem?_getD, ite_yes]
          exact ⟨.inl ⟨rfl, nmE_flat _⟩, .inl ⟨by rw [e, List.flatMap_append]; rfl, by rw [show List.flatMap nmE (dryP R j) ++ [Value.int IntKind.i64 ↑j] = List.flatMap nmE (dryP R (j + 1)) by rw [e, List.flatMap_append]; rfl]; exact nmE_flat _⟩⟩
        · rw [← mP, hh, if_pos rfl] at e
          simp -dsimp -implicitDefEqProofs (disch := omega) [go_sem, -List.getD_eq_getElem?_getD, ite_yes]
          refine LoopEnd.of (j + 1) (by omega) (by omega) (weakS_kmk kx [some 0, some 1] rfl ?_ (by simp -dsimp -implicitDefEqProofs (disch := omega) [go_sem, -List.getD_eq_getElem?_getD, ite_yes, klt, kn, km, e]))
          simp -dsimp -implicitDefEqProofs (disch := omega) [go_sem, -List.getD_eq_getElem?_getD, ite_yes]
          exact ⟨.inl ⟨rfl, nmE_flat _⟩, .inl ⟨by rw [e], nmE_flat _⟩⟩
      · obtain rfl : j = ps.length := by omega
        simp -dsimp -implicitDefEqProofs (disch := omega) [go_sem, -List.getD_eq_getElem?_getD, ite_yes, net1, klt]
        exact fin_two kx (nmE_flat _) (nmE_flat _)
end Go.Proofs.YtncblopbcnkinaaGreat
/- What water reaches: the program's side; and that both sides say the same. -/
namespace Go.Proofs.YtncblopbcnkinaaGreat
open Go.Am
set_option linter.unusedVariables false
set_option linter.unusedSimpArgs false
set_option maxRecDepth 100000
set_option maxHeartbeats 4000000

def atEnd (id nd : Int) (v : Vl) : Bool := decide (v.2.1 = id) && decide (v.2.2.1 = nd)
/-- whether an end of a pipe is open, as the program tells it: by the first valve there -/
def openI (l : List Vl) (p : Pp) (nd : Int) : Bool := decide (ixOf (atEnd p.1 nd) l < 0) || !(l.getD (ixOf (atEnd p.1 nd) l).toNat vl0).2.2.2
theorem ix_none {α : Type} (d : α) (p : α → Bool) (l : List α) (h : ∀ i, i < l.length → p (l.getD i d) = false) : ixOf p l = -1 := found_uniq (found_ix d p l) (.no h)
theorem ix_some {α : Type} (d : α) (p : α → Bool) (l : List α) {i : Nat} (hi : i < l.length) (h : p (l.getD i d) = true) : 0 ≤ ixOf p l := by
  rcases ix_cases d p l with ⟨_, h2⟩ | ⟨q, h2, _⟩
  · have := h2 i hi; rw [h] at this; cases this
  · omega
theorem goodV_twin {n : Int} {ps : List Pp} {l : List Vl} (h : goodV n ps l = true) {i : Nat} (hi : i < l.length) : twinV l i = false := by
  unfold goodV at h
  simp only [Bool.and_eq_true, decide_eq_true_eq] at h
  have := h.2.2 i hi
  unfold oneV at this
  simp only [Bool.and_eq_true, Bool.not_eq_true'] at this
  exact this.2.2.2
theorem goodV_net {n : Int} {ps : List Pp} {l : List Vl} (h : goodV n ps l = true) : NetAt n ps ∧ l.length ≤ 10 := by
  unfold goodV at h
  simp only [Bool.and_eq_true, decide_eq_true_eq] at h
  exact ⟨NetAt.of h.1, h.2.1⟩
theorem openI_openB {n : Int} {ps : List Pp} {l : List Vl} (h : goodV n ps l = true) (p : Pp) (nd : Int) : openI l p nd = openB l p nd := by
  unfold openI openB
  rcases ix_cases vl0 (atEnd p.1 nd) l with ⟨h1, h2⟩ | ⟨q, h1, h2, h3, h4⟩
  · have := ix_none vl0 (shutAt p.1 nd) l fun i hi => by
      have := h2 i hi
      unfold atEnd at this
      unfold shutAt
      rw [← Bool.and_assoc, this, Bool.false_and]
    rw [h1, this]; rfl
  · rw [h1, decide_eq_false (by omega), Bool.false_or, Int.toNat_natCast]
    cases hs : (l.getD q vl0).2.2.2
    · have := ix_none vl0 (shutAt p.1 nd) l fun i hi => by
        have e : shutAt p.1 nd (l.getD i vl0) = (atEnd p.1 nd (l.getD i vl0) && (l.getD i vl0).2.2.2) := by unfold shutAt atEnd; rw [Bool.and_assoc]
        rw [e]
        rcases Nat.lt_trichotomy i q with hlt | rfl | hgt
        · rw [h4 i hlt, Bool.false_and]
        · rw [hs, Bool.and_false]
        · cases ha : atEnd p.1 nd (l.getD i vl0)
          · rfl
          · have ht := goodV_twin h hi
            have : twinV l i = true := twinV_yes hgt h2 (by
              unfold atEnd at ha h3
              simp only [Bool.and_eq_true, decide_eq_true_eq] at ha h3
              unfold sameV
              rw [ha.1, ha.2, h3.1, h3.2]; simp)
            rw [this] at ht; cases ht
      rw [this]; rfl
    · have := ix_some vl0 (shutAt p.1 nd) l h2 (by
        have e : shutAt p.1 nd (l.getD q vl0) = (atEnd p.1 nd (l.getD q vl0) && (l.getD q vl0).2.2.2) := by unfold shutAt atEnd; rw [Bool.and_assoc]
        rw [e, h3, hs]; rfl)
      rw [decide_eq_true this]
/-- what depends on where pipes and nodes of valves are holds of valves that differ in what is shut alone -/
theorem reach_openI {n : Int} {ps : List Pp} {l : List Vl} (h : goodV n ps l = true) (src : Int) : reach (openI l) ps src = wetR ps l src :=
  run_congr (fun i hi k => openI_openB h _ _) 20 _
theorem aCells_roH {H : Heap} {t o n : Nat} : aCells (roH H) ⟨t, o, none⟩ n = aCells H ⟨t, o, none⟩ n := by
  rw [aCells_eq, aCells_eq, roH_get]
  cases H.get t <;> rfl
theorem valveAt1_A (v : Vl) (id nd : Int) (H : Heap) (u1 u2 : Nat) (hl1 : u1 < H.length) (hl2 : u2 < H.length) (c1 : aCells H ⟨u1, 0, none⟩ 1 = some [.int .i64 id]) (c2 : aCells H ⟨u2, 0, none⟩ 1 = some [.int .i64 nd]) :
    AFunC Tryz.prog 106 [.agg #[.int .i64 v.1, .int .i64 v.2.1, .int .i64 v.2.2.1, .bool v.2.2.2], .pointer (some ⟨u1, 0, none⟩), .pointer (some ⟨u2, 0, none⟩)] H (.bool (atEnd id nd v)) H := by
  refine AFunC.of_body Tryz.func106 (by kernel_rfl) rfl (by kernel_rfl) (by simp [Tryz.ntmps106]) ?_
  simp -dsimp -implicitDefEqProofs (disch := omega) [go_sem, -List.getD_eq_getElem?_getD, ite_yes, c1, c2, hl1, hl2]
  by_cases h1 : v.2.1 = id
  · simp -dsimp -implicitDefEqProofs (disch := omega) [go_sem, -List.getD_eq_getElem?_getD, ite_yes, h1, c1, c2, hl1, hl2]
    exact fin_flat rfl (by simp [atEnd, h1])
  · simp -dsimp -implicitDefEqProofs (disch := omega) [go_sem, -List.getD_eq_getElem?_getD, ite_yes, h1, c1, c2, hl1, hl2]
    exact fin_flat rfl (by simp [atEnd, h1])
theorem valveAt_A (l : List Vl) (hl : l.length ≤ 1048577) (c : Nat) (p : Pp) (nd : Int) (H : Heap) (t : Nat) (hS : Sl vlE H t l) :
    AFunC Tryz.prog 83 [.slice (some ⟨t, 0, none⟩) l.length c, .agg #[.int .i64 p.1, .int .i64 p.2.1, .int .i64 p.2.2.1, .int .i64 p.2.2.2], .int .i64 nd] H (.int .i64 (ixOf (atEnd p.1 nd) l)) H := by
  refine AFunC.of_body Tryz.func83 (by kernel_rfl) rfl (by kernel_rfl) (by simp [Tryz.ntmps83]) ?_
  have ht := hS.lt
  simp -dsimp -implicitDefEqProofs (disch := omega) [go_sem, -List.getD_eq_getElem?_getD, ite_yes, ht]
  have A := indexFuncVl_A l (atEnd p.1 nd) 106 #[.pointer (some ⟨H.length, 0, none⟩), .pointer (some ⟨H.length + 1, 0, none⟩)] hl c (H ++ [some ⟨[.int .i64 p.1, .int .i64 p.2.1, .int .i64 p.2.2.1, .int .i64 p.2.2.2], true, 78, 1⟩, some ⟨[.int .i64 nd], true, 3, 1⟩]) t hS.app (by simp -dsimp -implicitDefEqProofs (disch := omega) [go_sem, -List.getD_eq_getElem?_getD, ite_yes, ht])
    (fun k hk => valveAt1_A _ _ _ _ _ _ (by simp) (by simp) (by simp -dsimp -implicitDefEqProofs (disch := omega) [go_sem, -List.getD_eq_getElem?_getD, ite_yes, ht]) (by simp -dsimp -implicitDefEqProofs (disch := omega) [go_sem, -List.getD_eq_getElem?_getD, ite_yes, ht]))
  refine ACall.of A ?_
  simp -dsimp -implicitDefEqProofs (disch := omega) [go_sem, -List.getD_eq_getElem?_getD, ite_yes]
  exact fin_flat rfl rfl
theorem watered1_A (l : List Vl) (hl : l.length ≤ 1048577) (c : Nat) (p : Pp) (nd : Int) (H : Heap) (t u : Nat) (hS : Sl vlE H t l) (hu : u < H.length) (cu : aCells H ⟨u, 0, none⟩ 1 = some [.slice (some ⟨t, 0, none⟩) l.length c]) :
    AFunC Tryz.prog 82 [.agg #[.int .i64 p.1, .int .i64 p.2.1, .int .i64 p.2.2.1, .int .i64 p.2.2.2], .int .i64 nd, .pointer (some ⟨u, 0, none⟩)] H (.bool (openI l p nd)) H := by
  refine AFunC.of_body Tryz.func82 (by kernel_rfl) rfl (by kernel_rfl) (by simp [Tryz.ntmps82]) ?_
  have ht := hS.lt
  have c3 := fun k hk => hS.cell (s := 4) (fun _ => rfl) vl0 k 3 hk (by omega)
  simp only [vlE] at c3
  simp -dsimp -implicitDefEqProofs (disch := omega) [go_sem, -List.getD_eq_getElem?_getD, ite_yes, ht, hu, cu]
  refine ACall.of (valveAt_A l hl c p nd _ t hS.app) ?_
  have ho : openI l p nd = (decide (ixOf (atEnd p.1 nd) l < 0) || !(l.getD (ixOf (atEnd p.1 nd) l).toNat vl0).2.2.2) := rfl
  rcases ix_cases vl0 (atEnd p.1 nd) l with ⟨h1, _⟩ | ⟨q, h1, h2, _⟩
  · rw [h1] at ho ⊢
    simp -dsimp -implicitDefEqProofs (disch := omega) [go_sem, -List.getD_eq_getElem?_getD, ite_yes, ht, hu, cu]
    exact fin_flat rfl (by rw [ho]; rfl)
  · rw [h1] at ho ⊢
    rw [decide_eq_false (show ¬ (q : Int) < 0 by omega), Bool.false_or, Int.toNat_natCast] at ho
    have h3 : ¬ (q : Int) < 0 := by omega
    have c3' := c3 q h2
    simp -dsimp -implicitDefEqProofs (disch := omega) [go_sem, -List.getD_eq_getElem?_getD, ite_yes, ht, hu, cu, h3, h2, c3']
    exact fin_flat rfl (by rw [ho])
theorem watered_A (n : Int) (ps : List Pp) (cp : Nat) (l : List Vl) (hg : goodV n ps l = true) (c : Nat) (src : Int) (hsrc : 1 ≤ src ∧ src ≤ n) (H : Heap) (tp tv : Nat) (hP : Sl ppE H tp ps) (hV : Sl vlE H tv l) :
    AFunC Tryz.prog 57 [netV n tp ps.length cp, .slice (some ⟨tv, 0, none⟩) l.length c, .int .i64 src] H (.pointer (some ⟨H.length, 0, none⟩)) (H ++ [some ⟨(wetR ps l src).map .bool, true, 111, 1⟩]) := by
  refine AFunC.of_body Tryz.func57 (by kernel_rfl) rfl (by kernel_rfl) (by simp [Tryz.ntmps57]) ?_
  have htp := hP.lt
  have htv := hV.lt
  obtain ⟨hN, hl⟩ := goodV_net hg
  simp -dsimp -implicitDefEqProofs (disch := omega) [go_sem, -List.getD_eq_getElem?_getD, ite_yes, htp, htv]
  have A := reached_A n ps hN cp src hsrc (openI l) 82 #[.pointer (some ⟨H.length + 1, 0, none⟩)] (H ++ [some ⟨[.int .i64 n, .slice (some ⟨tp, 0, none⟩) ps.length cp], true, 26, 1⟩, some ⟨[.slice (some ⟨tv, 0, none⟩) l.length c], true, 27, 1⟩]) tp hP.app
    (fun K => Sl vlE K tv l ∧ H.length + 1 < K.length ∧ aCells K ⟨H.length + 1, 0, none⟩ 1 = some [.slice (some ⟨tv, 0, none⟩) l.length c])
    (fun L => ⟨(hV.app.app).ro, by simp [roH_length], by rw [aCells_roH]; simp -dsimp -implicitDefEqProofs (disch := omega) [go_sem, -List.getD_eq_getElem?_getD, ite_yes]⟩) (by simp -dsimp -implicitDefEqProofs (disch := omega) [go_sem, -List.getD_eq_getElem?_getD, ite_yes, htp]) (fun m hm js => by simp at hm; simp -dsimp -implicitDefEqProofs (disch := omega) [go_sem, -List.getD_eq_getElem?_getD, ite_yes, htp]; omega)
    (fun K hK p nd => watered1_A l (by omega) c p nd K tv _ hK.1 hK.2.1 hK.2.2)
  refine ACall.of A ?_
  simp -dsimp -implicitDefEqProofs (disch := omega) [go_sem, -List.getD_eq_getElem?_getD, ite_yes]
  refine fin_list [some 2] rfl ?_ (by simp -dsimp -implicitDefEqProofs (disch := omega) [go_sem, -List.getD_eq_getElem?_getD, ite_yes])
  simp -dsimp -implicitDefEqProofs (disch := omega) [go_sem, -List.getD_eq_getElem?_getD, ite_yes]
  exact .inl ⟨by rw [reach_openI hg], bl_flat _⟩
/-- the Ids of the dry pipes below k -/
def dryI (R : List Bool) (ps : List Pp) : Nat → List Int
  | 0 => []
  | k + 1 => if R.getD (9 + k) false then dryI R ps k else dryI R ps k ++ [(ps.getD k pp0).1]
theorem dryI_length (R : List Bool) (ps : List Pp) : ∀ k, (dryI R ps k).length ≤ k
  | 0 => Nat.le_refl _
  | k + 1 => by have := dryI_length R ps k; rw [dryI]; split <;> simp <;> omega
def blE (b : Bool) : List Value := [.bool b]
theorem blE_map (R : List Bool) : R.map Value.bool = R.flatMap blE := by
  induction R with
  | nil => rfl
  | cons b R ih => simp only [List.map_cons, List.flatMap_cons, ih]; rfl
end Go.Proofs.YtncblopbcnkinaaGreat
/- Reopening: the shut valves, valves of which some are opened, and what is dry then. -/
namespace Go.Proofs.YtncblopbcnkinaaGreat
open Go.Am
set_option linter.unusedVariables false
set_option linter.unusedSimpArgs false
set_option maxRecDepth 100000
set_option maxHeartbeats 4000000

/-- numbers that stand in a block from some place on -/
structure IdS (H : Heap) (t o : Nat) (l : List Int) : Prop where
  lt : t < H.length
  cs : ∀ k, k < l.length → aCells H ⟨t, o + k, none⟩ 1 = some [.int .i64 (l.getD k 0)]
theorem IdS.of {H : Heap} {t : Nat} {l : List Int} (h : Sl nmE H t l) : IdS H t 0 l :=
  ⟨h.lt, fun k hk => by rw [Nat.zero_add]; exact h.one (g := fun n => Value.int .i64 n) 0 k hk⟩
theorem IdS.app {H L : Heap} {t o : Nat} {l : List Int} (h : IdS H t o l) : IdS (H ++ L) t o l :=
  ⟨by have := h.lt; simp; omega, fun k hk => by rw [aCells_old h.lt]; exact h.cs k hk⟩
theorem IdS.ro {H : Heap} {t o : Nat} {l : List Int} (h : IdS H t o l) : IdS (roH H) t o l :=
  ⟨by rw [roH_length]; exact h.lt, fun k hk => by rw [aCells_roH]; exact h.cs k hk⟩
theorem l1HasO_A (l : List Int) (n : Int) (hl : l.length ≤ 1048577) (c : Nat) (H : Heap) (t o : Nat) (hS : IdS H t o l) :
    AFunC Tryz.prog 50 [.slice (some ⟨t, o, none⟩) l.length c, .int .i64 n] H (.bool (hasI l n)) H := by
  refine AFunC.of_body Tryz.func50 (by kernel_rfl) rfl (by kernel_rfl) (by simp [Tryz.ntmps50]) ?_
  have ht := hS.lt
  have cs := hS.cs
  simp -dsimp -implicitDefEqProofs (disch := omega) [go_sem, -List.getD_eq_getElem?_getD, ite_yes]
  refine ALoop.intro (ι := Nat) (fun k => k ≤ l.length ∧ ∀ i, i < k → l.getD i 0 ≠ n) (fun k => [(0, .slice (some ⟨t, o, none⟩) l.length c), (1, .int .i64 n), (5, .int .i64 k)]) (fun _ => H) (fun k => l.length - k) 0 ⟨by omega, fun i hi => by omega⟩ ?_ ?_
  · exact weakS_same (by simp -dsimp -implicitDefEqProofs (disch := omega) [go_sem, -List.getD_eq_getElem?_getD, ite_yes, ht])
  · rintro k ⟨hk, hf⟩
    by_cases hlt : k < l.length
    · by_cases h : l.getD k 0 = n
      · simp -dsimp -implicitDefEqProofs (disch := omega) [go_sem, -List.getD_eq_getElem?_getD, ite_yes, hlt, cs, h]
        exact fin_flat0 rfl (by rw [hasI_yes hlt h])
      · simp -dsimp -implicitDefEqProofs (disch := omega) [go_sem, -List.getD_eq_getElem?_getD, ite_yes, hlt, cs, h]
        refine LoopEnd.of (k + 1) ⟨by omega, fun i hi => ?_⟩ (by omega) (weakS_same (by simp -dsimp -implicitDefEqProofs (disch := omega) [go_sem, -List.getD_eq_getElem?_getD, ite_yes, ht]))
        rcases Nat.lt_or_ge i k with h' | h'
        · exact hf i h'
        · rw [show i = k by omega]; exact h
    · simp -dsimp -implicitDefEqProofs (disch := omega) [go_sem, -List.getD_eq_getElem?_getD, ite_yes, hlt]
      exact fin_flat0 rfl (by rw [hasI_no (fun i hi => hf i (by omega))])
theorem indexNm_A (l : List Int) (n : Int) (hl : l.length ≤ 1048577) (c : Nat) (H : Heap) (t o : Nat) (hS : IdS H t o l) :
    ∃ r : Int, decide (0 ≤ r) = hasI l n ∧ AFunC Tryz.prog 80 [.slice (some ⟨t, o, none⟩) l.length c, .int .i64 n] H (.int .i64 r) H := by
  have hr := found_ix 0 (fun x : Int => decide (x = n)) l
  refine ⟨ixOf (fun x : Int => decide (x = n)) l, ?_, ?_⟩
  · rcases ix_cases 0 (fun x : Int => decide (x = n)) l with ⟨h1, h2⟩ | ⟨q, h1, h2, h3, _⟩
    · rw [h1, hasI_no fun i hi => of_decide_eq_false (h2 i hi)]; rfl
    · rw [h1, hasI_yes h2 (of_decide_eq_true h3), decide_eq_true (by omega)]
  generalize ixOf (fun x : Int => decide (x = n)) l = r at hr
  refine AFunC.of_body Tryz.func80 (by kernel_rfl) rfl (by kernel_rfl) (by simp [Tryz.ntmps80]) ?_
  have ht := hS.lt
  have cs := hS.cs
  simp -dsimp -implicitDefEqProofs (disch := omega) [go_sem, -List.getD_eq_getElem?_getD, ite_yes]
  refine ALoop.intro (ι := Nat) (fun k => k ≤ l.length ∧ findTo 0 (fun x : Int => decide (x = n)) l k) (fun k => [(0, .slice (some ⟨t, o, none⟩) l.length c), (1, .int .i64 n), (7, .int .i64 l.length), (8, .int .i64 k)]) (fun _ => H) (fun k => l.length - k) 0 ⟨by omega, fun i hi => by omega⟩ ?_ ?_
  · exact weakS_same (by simp -dsimp -implicitDefEqProofs (disch := omega) [go_sem, -List.getD_eq_getElem?_getD, ite_yes, ht])
  · rintro k ⟨hk, hf⟩
    by_cases hlt : k < l.length
    · by_cases h : l.getD k 0 = n
      · have h' := h.symm
        simp -dsimp -implicitDefEqProofs (disch := omega) [go_sem, -List.getD_eq_getElem?_getD, ite_yes, hlt, cs, h']
        exact fin_flat0 rfl (by rw [found_uniq hr (.yes k hlt (decide_eq_true h) hf)])
      · have h' : ¬ n = l.getD k 0 := fun e => h e.symm
        simp -dsimp -implicitDefEqProofs (disch := omega) [go_sem, -List.getD_eq_getElem?_getD, ite_yes, hlt, cs, h']
        exact LoopEnd.of (k + 1) ⟨by omega, hf.next (decide_eq_false h)⟩ (by omega) (weakS_same (by simp -dsimp -implicitDefEqProofs (disch := omega) [go_sem, -List.getD_eq_getElem?_getD, ite_yes, ht]))
    · simp -dsimp -implicitDefEqProofs (disch := omega) [go_sem, -List.getD_eq_getElem?_getD, ite_yes, hlt]
      obtain rfl : k = l.length := by omega
      exact fin_flat0 rfl (by rw [found_uniq hr (.no hf)])
theorem containsNm_A (l : List Int) (n : Int) (hl : l.length ≤ 1048577) (c : Nat) (H : Heap) (t o : Nat) (hS : IdS H t o l) :
    AFunC Tryz.prog 56 [.slice (some ⟨t, o, none⟩) l.length c, .int .i64 n] H (.bool (hasI l n)) H := by
  obtain ⟨r, hr, A⟩ := indexNm_A l n hl c H t o hS
  refine AFunC.of_body Tryz.func56 (by kernel_rfl) rfl (by kernel_rfl) (by simp [Tryz.ntmps56]) ?_
  have ht := hS.lt
  simp -dsimp -implicitDefEqProofs (disch := omega) [go_sem, -List.getD_eq_getElem?_getD, ite_yes, ht]
  refine ACall.of A ?_
  simp -dsimp -implicitDefEqProofs (disch := omega) [go_sem, -List.getD_eq_getElem?_getD, ite_yes]
  exact fin_flat0 rfl (by rw [hr])
/-- the Ids of the valves below k that are shut -/
def shutTo (l : List Vl) : Nat → List Int
  | 0 => []
  | k + 1 => if (l.getD k vl0).2.2.2 then shutTo l k ++ [(l.getD k vl0).1] else shutTo l k
def shutL (l : List Vl) : List Int := shutTo l l.length
theorem shutTo_length (l : List Vl) : ∀ k, (shutTo l k).length ≤ k
  | 0 => Nat.le_refl _
  | k + 1 => by have := shutTo_length l k; rw [shutTo]; split <;> simp <;> omega
theorem shutL_length (l : List Vl) : (shutL l).length ≤ l.length := shutTo_length l _
theorem shutIds_A (l : List Vl) (hl : l.length ≤ 1048577) (c : Nat) (H : Heap) (t : Nat) (hS : Sl vlE H t l) :
    AFunC Tryz.prog 34 [.slice (some ⟨t, 0, none⟩) l.length c] H (.slice (some ⟨H.length, 0, none⟩) (shutL l).length 0) (H ++ [some ⟨(shutL l).flatMap nmE, true, 3, 1⟩]) := by
  refine AFunC.of_body Tryz.func34 (by kernel_rfl) rfl (by kernel_rfl) (by simp [Tryz.ntmps34]) ?_
  have ht := hS.lt
  have cs := fun k hk => hS.cells (s := 4) (fun _ => rfl) vl0 k hk
  simp only [vlE] at cs
  simp -dsimp -implicitDefEqProofs (disch := omega) [go_sem, -List.getD_eq_getElem?_getD, ite_yes, ht]
  refine ALoop.intro (ι := Nat) (fun k => k ≤ l.length) (fun k => [(3, .slice (some ⟨H.length, 0, none⟩) (shutTo l k).length 0), (7, .slice (some ⟨t, 0, none⟩) l.length c), (8, .int .i64 l.length), (9, .int .i64 k)])
    (fun k => H ++ [some ⟨(shutTo l k).flatMap nmE, true, 3, 1⟩]) (fun k => l.length - k) 0 (by omega) ?_ ?_
  · refine weakS_mk [some 0] rfl ?_ (by simp -dsimp -implicitDefEqProofs (disch := omega) [go_sem, -List.getD_eq_getElem?_getD, ite_yes, ht, shutTo])
    simp -dsimp -implicitDefEqProofs (disch := omega) [go_sem, -List.getD_eq_getElem?_getD, ite_yes, shutTo]
    exact .inl ⟨rfl, rfl⟩
  intro k hk
  have hsl := shutTo_length l k
  have hfl : ((shutTo l k).flatMap nmE).length = (shutTo l k).length := by rw [nmE_length]; omega
  by_cases hlt : k < l.length
  · have e : shutTo l (k + 1) = if (l.getD k vl0).2.2.2 then shutTo l k ++ [(l.getD k vl0).1] else shutTo l k := rfl
    have cs' := cs k hlt
    cases hh : (l.getD k vl0).2.2.2 <;> rw [hh] at e cs'
    · simp only [Bool.false_eq_true, if_false] at e
      simp -dsimp -implicitDefEqProofs (disch := omega) [go_sem, -List.getD_eq_getElem?_getD, ite_yes, hlt, ht, cs', hfl]
      refine LoopEnd.of (k + 1) (by omega) (by omega) (weakS_mk [some 0] rfl ?_ (by simp -dsimp -implicitDefEqProofs (disch := omega) [go_sem, -List.getD_eq_getElem?_getD, ite_yes, ht, e]))
      simp -dsimp -implicitDefEqProofs (disch := omega) [go_sem, -List.getD_eq_getElem?_getD, ite_yes]
      exact .inl ⟨by rw [e], nmE_flat _⟩
    · rw [if_pos rfl] at e
      simp -dsimp -implicitDefEqProofs (disch := omega) [go_sem, -List.getD_eq_getElem?_getD, ite_yes, hlt, ht, cs', hfl]
      refine ⟨by omega, LoopEnd.of (k + 1) (by omega) (by omega) (weakS_mk [some 3] rfl ?_ (by simp -dsimp -implicitDefEqProofs (disch := omega) [go_sem, -List.getD_eq_getElem?_getD, ite_yes, ht, e]))⟩
      simp -dsimp -implicitDefEqProofs (disch := omega) [go_sem, -List.getD_eq_getElem?_getD, ite_yes]
      exact .inl ⟨by rw [e, List.flatMap_append]; rfl, by rw [show List.flatMap nmE (shutTo l k) ++ [Value.int IntKind.i64 (l.getD k vl0).1] = List.flatMap nmE (shutTo l (k + 1)) by rw [e, List.flatMap_append]; rfl]; exact nmE_flat _⟩
  · obtain rfl : k = l.length := by omega
    simp -dsimp -implicitDefEqProofs (disch := omega) [go_sem, -List.getD_eq_getElem?_getD, ite_yes, hlt]
    refine fin_list [some 0] rfl ?_ (by simp -dsimp -implicitDefEqProofs (disch := omega) [go_sem, -List.getD_eq_getElem?_getD, ite_yes, shutL])
    simp -dsimp -implicitDefEqProofs (disch := omega) [go_sem, -List.getD_eq_getElem?_getD, ite_yes]
    exact .inl ⟨rfl, nmE_flat _⟩
theorem l18Shut_A (l : List Vl) (hl : l.length ≤ 1048577) (c : Nat) (H : Heap) (t : Nat) (hS : Sl vlE H t l) :
    AFunC Tryz.prog 49 [.slice (some ⟨t, 0, none⟩) l.length c] H (.slice (some ⟨H.length, 0, none⟩) (shutL l).length 0) (H ++ [some ⟨(shutL l).flatMap nmE, true, 3, 1⟩]) := by
  refine AFunC.of_body Tryz.func49 (by kernel_rfl) rfl (by kernel_rfl) (by simp [Tryz.ntmps49]) ?_
  have ht := hS.lt
  have c0 := fun k hk => hS.cell (s := 4) (fun _ => rfl) vl0 k 0 hk (by omega)
  have c3 := fun k hk => hS.cell (s := 4) (fun _ => rfl) vl0 k 3 hk (by omega)
  simp only [vlE, Nat.add_zero] at c0 c3
  simp -dsimp -implicitDefEqProofs (disch := omega) [go_sem, -List.getD_eq_getElem?_getD, ite_yes, ht]
  refine ALoop.intro (ι := Nat) (fun k => k ≤ l.length) (fun k => [(0, .slice (some ⟨t, 0, none⟩) l.length c), (3, .slice (some ⟨H.length, 0, none⟩) (shutTo l k).length 0), (4, .int .i64 k)])
    (fun k => H ++ [some ⟨(shutTo l k).flatMap nmE, true, 3, 1⟩]) (fun k => l.length - k) 0 (by omega) ?_ ?_
  · refine weakS_mk [some 0] rfl ?_ (by simp -dsimp -implicitDefEqProofs (disch := omega) [go_sem, -List.getD_eq_getElem?_getD, ite_yes, ht, shutTo])
    simp -dsimp -implicitDefEqProofs (disch := omega) [go_sem, -List.getD_eq_getElem?_getD, ite_yes, shutTo]
    exact .inl ⟨rfl, rfl⟩
  intro k hk
  have hsl := shutTo_length l k
  have hfl : ((shutTo l k).flatMap nmE).length = (shutTo l k).length := by rw [nmE_length]; omega
  by_cases hlt : k < l.length
  · have e : shutTo l (k + 1) = if (l.getD k vl0).2.2.2 then shutTo l k ++ [(l.getD k vl0).1] else shutTo l k := rfl
    have c0' := c0 k hlt
    have c3' := c3 k hlt
    cases hh : (l.getD k vl0).2.2.2 <;> rw [hh] at e c3' c0'
    · simp only [Bool.false_eq_true, if_false] at e
      simp -dsimp -implicitDefEqProofs (disch := omega) [go_sem, -List.getD_eq_getElem?_getD, ite_yes, hlt, ht, c0', c3', hfl]
      refine LoopEnd.of (k + 1) (by omega) (by omega) (weakS_mk [some 0] rfl ?_ (by simp -dsimp -implicitDefEqProofs (disch := omega) [go_sem, -List.getD_eq_getElem?_getD, ite_yes, ht, e]))
      simp -dsimp -implicitDefEqProofs (disch := omega) [go_sem, -List.getD_eq_getElem?_getD, ite_yes]
      exact .inl ⟨by rw [e], nmE_flat _⟩
    · rw [if_pos rfl] at e
      simp -dsimp -implicitDefEqProofs (disch := omega) [go_sem, -List.getD_eq_getElem?_getD, ite_yes, hlt, ht, c0', c3', hfl]
      refine ⟨by omega, LoopEnd.of (k + 1) (by omega) (by omega) (weakS_mk [some 2] rfl ?_ (by simp -dsimp -implicitDefEqProofs (disch := omega) [go_sem, -List.getD_eq_getElem?_getD, ite_yes, ht, e]))⟩
      simp -dsimp -implicitDefEqProofs (disch := omega) [go_sem, -List.getD_eq_getElem?_getD, ite_yes]
      exact .inl ⟨by rw [e, List.flatMap_append]; rfl, by rw [show List.flatMap nmE (shutTo l k) ++ [Value.int IntKind.i64 (l.getD k vl0).1] = List.flatMap nmE (shutTo l (k + 1)) by rw [e, List.flatMap_append]; rfl]; exact nmE_flat _⟩
  · obtain rfl : k = l.length := by omega
    simp -dsimp -implicitDefEqProofs (disch := omega) [go_sem, -List.getD_eq_getElem?_getD, ite_yes, hlt]
    refine fin_list [some 0] rfl ?_ (by simp -dsimp -implicitDefEqProofs (disch := omega) [go_sem, -List.getD_eq_getElem?_getD, ite_yes, shutL])
    simp -dsimp -implicitDefEqProofs (disch := omega) [go_sem, -List.getD_eq_getElem?_getD, ite_yes]
    exact .inl ⟨rfl, nmE_flat _⟩
/-- a valve that is opened if its Id is among some -/
def opV (ids : List Int) (v : Vl) : Vl := (v.1, v.2.1, v.2.2.1, v.2.2.2 && !hasI ids v.1)
def opTo (l : List Vl) (ids : List Int) : Nat → List Vl
  | 0 => l
  | k + 1 => (opTo l ids k).set k (opV ids (l.getD k vl0))
def opL (l : List Vl) (ids : List Int) : List Vl := opTo l ids l.length
theorem opTo_length (l : List Vl) (ids : List Int) : ∀ k, (opTo l ids k).length = l.length
  | 0 => rfl
  | k + 1 => by rw [opTo, List.length_set, opTo_length l ids k]
theorem opL_length (l : List Vl) (ids : List Int) : (opL l ids).length = l.length := opTo_length l ids _
theorem getD_set_vl {l : List Vl} {i j : Nat} {x : Vl} (hi : i < l.length) : (l.set i x).getD j vl0 = if i = j then x else l.getD j vl0 := by
  simp only [List.getD_eq_getElem?_getD, List.getElem?_set]
  split
  · rename_i h; subst h; simp [hi]
  · rfl
theorem opTo_getD (l : List Vl) (ids : List Int) : ∀ (k : Nat), k ≤ l.length → ∀ i, (opTo l ids k).getD i vl0 = if i < k then opV ids (l.getD i vl0) else l.getD i vl0
  | 0, _, i => by simp [opTo]
  | k + 1, hk, i => by
    rw [opTo, getD_set_vl (by rw [opTo_length]; omega), opTo_getD l ids k (by omega) i]
    by_cases h1 : k = i
    · subst h1; rw [if_pos rfl, if_pos (by omega)]
    · rw [if_neg h1]
      by_cases h2 : i < k
      · rw [if_pos h2, if_pos (by omega)]
      · rw [if_neg h2, if_neg (by omega)]
theorem opL_getD (l : List Vl) (ids : List Int) {i : Nat} (hi : i < l.length) : (opL l ids).getD i vl0 = opV ids (l.getD i vl0) := by
  rw [opL, opTo_getD l ids _ (Nat.le_refl _), if_pos hi]
theorem opTo_next (l : List Vl) (ids : List Int) {k : Nat} (hk : k < l.length) : opTo l ids (k + 1) = (opTo l ids k).set k (opV ids ((opTo l ids k).getD k vl0)) := by
  rw [opTo, opTo_getD l ids k (by omega), if_neg (by omega)]
theorem opened_A (l : List Vl) (hl : l.length ≤ 1048577) (c : Nat) (ids : List Int) (hi : ids.length ≤ 1048577) (d o : Nat) (H : Heap) (t u : Nat) (hS : Sl vlE H t l) (hU : IdS H u o ids) :
    AFunC Tryz.prog 48 [.slice (some ⟨t, 0, none⟩) l.length c, .slice (some ⟨u, o, none⟩) ids.length d] H (.slice (some ⟨H.length, 0, none⟩) l.length 0) (H ++ [some ⟨(opL l ids).flatMap vlE, true, 71, 4⟩]) := by
  refine AFunC.of_body Tryz.func48 (by kernel_rfl) rfl (by kernel_rfl) (by simp [Tryz.ntmps48]) ?_
  have ht := hS.lt
  have hu := hU.lt
  have al := hS.all (s := 4) (fun _ => rfl)
  simp -dsimp -implicitDefEqProofs (disch := omega) [go_sem, -List.getD_eq_getElem?_getD, ite_yes, ht, hu, al]
  refine ⟨by omega, ?_⟩
  refine ALoop.intro (ι := Nat) (fun k => k ≤ l.length) (fun k => [(1, .slice (some ⟨u, o, none⟩) ids.length d), (5, .slice (some ⟨H.length, 0, none⟩) l.length 0), (11, .int .i64 l.length), (12, .int .i64 k)])
    (fun k => H ++ [some ⟨(opTo l ids k).flatMap vlE, true, 71, 4⟩]) (fun k => l.length - k) 0 (by omega) ?_ ?_
  · refine weakS_mk [some 1] rfl ?_ (by simp -dsimp -implicitDefEqProofs (disch := omega) [go_sem, -List.getD_eq_getElem?_getD, ite_yes, ht, hu])
    simp -dsimp -implicitDefEqProofs (disch := omega) [go_sem, -List.getD_eq_getElem?_getD, ite_yes, opTo]
    exact .inl ⟨rfl, vlE_flat _⟩
  intro k hk
  by_cases hlt : k < l.length
  · have e := opTo_next l ids hlt
    have ol := opTo_length l ids k
    generalize opTo l ids k = m at *
    have hS' : Sl vlE (H ++ [some ⟨m.flatMap vlE, true, 71, 4⟩]) H.length m := Sl.of rfl
    have c0 := hS'.cell (s := 4) (fun _ => rfl) vl0 k 0 (by omega) (by omega)
    have c3 := hS'.cell (s := 4) (fun _ => rfl) vl0 k 3 (by omega) (by omega)
    have sc := set_cell (f := vlE) (s := 4) (l := m) (i := k) (fun _ => rfl) (opV ids (m.getD k vl0)) vl0 (by omega) (j := 3) (by omega) (v := .bool ((m.getD k vl0).2.2.2 && !hasI ids (m.getD k vl0).1)) rfl
    simp only [vlE, Nat.add_zero] at c0 c3
    have hml : (m.flatMap vlE).length = l.length * 4 := by rw [vlE_length, ol]
    have hk4 : k * 4 + 3 < l.length * 4 := by omega
    simp -dsimp -implicitDefEqProofs (disch := omega) [go_sem, -List.getD_eq_getElem?_getD, ite_yes, hlt, ht, hu, c0, c3, hml]
    refine AIf.of (fun h => ?_) (fun h => ?_)
    · simp -dsimp -implicitDefEqProofs (disch := omega) [go_sem, -List.getD_eq_getElem?_getD, ite_yes, hlt, ht, hu, c0, c3, hml]
      refine ACall.of (containsNm_A ids (m.getD k vl0).1 hi d _ u o hU.app) ?_
      simp -dsimp -implicitDefEqProofs (disch := omega) [go_sem, -List.getD_eq_getElem?_getD, ite_yes, hlt, ht, hu, hml]
      refine LoopEnd.of (k + 1) (by omega) (by omega) (weakS_mk [some 0] rfl ?_ (by simp -dsimp -implicitDefEqProofs (disch := omega) [go_sem, -List.getD_eq_getElem?_getD, ite_yes, ht, hu]))
      rw [h, Bool.true_and] at sc
      simp -dsimp -implicitDefEqProofs (disch := omega) [go_sem, -List.getD_eq_getElem?_getD, ite_yes]
      exact .inl ⟨by rw [e, sc], by rw [sc]; exact vlE_flat _⟩
    · rw [h, Bool.false_and] at sc
      simp -dsimp -implicitDefEqProofs (disch := omega) [go_sem, -List.getD_eq_getElem?_getD, ite_yes, hlt, ht, hu, c0, c3, hml]
      refine LoopEnd.of (k + 1) (by omega) (by omega) (weakS_mk [some 0] rfl ?_ (by simp -dsimp -implicitDefEqProofs (disch := omega) [go_sem, -List.getD_eq_getElem?_getD, ite_yes, ht, hu]))
      simp -dsimp -implicitDefEqProofs (disch := omega) [go_sem, -List.getD_eq_getElem?_getD, ite_yes]
      exact .inl ⟨by rw [e, sc], by rw [sc]; exact vlE_flat _⟩
  · obtain rfl : k = l.length := by omega
    simp -dsimp -implicitDefEqProofs (disch := omega) [go_sem, -List.getD_eq_getElem?_getD, ite_yes, hlt]
    refine fin_list [some 0] rfl ?_ (by simp -dsimp -implicitDefEqProofs (disch := omega) [go_sem, -List.getD_eq_getElem?_getD, ite_yes])
    simp -dsimp -implicitDefEqProofs (disch := omega) [go_sem, -List.getD_eq_getElem?_getD, ite_yes]
    exact .inl ⟨rfl, vlE_flat _⟩
end Go.Proofs.YtncblopbcnkinaaGreat
/- Reopening: the reference's side; StillDry. -/
namespace Go.Proofs.YtncblopbcnkinaaGreat
open Go.Am
set_option linter.unusedVariables false
set_option linter.unusedSimpArgs false
set_option maxRecDepth 100000
set_option maxHeartbeats 4000000

theorem nm_cell1 (s : List Int) {q : Nat} (hq : q < s.length) : List.take 1 (List.drop q (s.flatMap nmE)) = [.int .i64 (s.getD q 0)] := by
  have := flatMap_cells nmE 1 (fun _ => rfl) 0 s q hq
  rwa [Nat.mul_one] at this
theorem ix_congr {α : Type} (d : α) {p p' : α → Bool} {l l' : List α} (hl : l.length = l'.length) (h : ∀ i, i < l.length → p (l.getD i d) = p' (l'.getD i d)) : ixOf p l = ixOf p' l' := by
  refine found_uniq (found_ix d p l) ?_
  rcases ix_cases d p' l' with ⟨h1, h2⟩ | ⟨q, h1, h2, h3, h4⟩
  · rw [h1]; exact .no fun i hi => by rw [h i hi]; exact h2 i (by omega)
  · rw [h1]; exact .yes q (by omega) (by rw [h q (by omega)]; exact h3) fun i hi => by rw [h i (by omega)]; exact h4 i hi
theorem oneV_opL (ps : List Pp) (l : List Vl) (ids : List Int) {i : Nat} (hi : i < l.length) : oneV ps (opL l ids) i = oneV ps l i := by
  have e : ∀ j, j < l.length → ((opL l ids).getD j vl0).1 = (l.getD j vl0).1 ∧ ((opL l ids).getD j vl0).2.1 = (l.getD j vl0).2.1 ∧ ((opL l ids).getD j vl0).2.2.1 = (l.getD j vl0).2.2.1 := fun j hj => by
    rw [opL_getD l ids hj]; exact ⟨rfl, rfl, rfl⟩
  have t : twinV (opL l ids) i = twinV l i := by
    unfold twinV
    rw [ix_congr vl0 (p' := sameV (l.getD i vl0)) (l' := l.take i) (by rw [List.length_take, List.length_take, opL_length]) (fun j hj => ?_)]
    rw [List.length_take, opL_length] at hj
    rw [getD_take' (by omega), getD_take' (by omega)]
    unfold sameV
    rw [(e j (by omega)).2.1, (e j (by omega)).2.2, (e i hi).2.1, (e i hi).2.2]
  unfold oneV
  rw [t, (e i hi).1, (e i hi).2.1, (e i hi).2.2]
  by_cases h0 : 0 < i
  · rw [(e (i - 1) (by omega)).1]
  · rw [decide_eq_false h0, Bool.false_and, Bool.false_and]
theorem goodV_opL {n : Int} {ps : List Pp} {l : List Vl} (h : goodV n ps l = true) (ids : List Int) : goodV n ps (opL l ids) = true := by
  unfold goodV at h ⊢
  simp only [Bool.and_eq_true, decide_eq_true_eq] at h ⊢
  rw [opL_length]
  exact ⟨h.1, h.2.1, fun i hi => by rw [oneV_opL ps l ids hi]; exact h.2.2 i hi⟩
theorem l4Turned_A (l : List Vl) (hl : l.length ≤ 1048577) (c : Nat) (k : Nat) (hk : k < l.length) (b : Bool) (H : Heap) (t : Nat) (hS : Sl vlE H t l) :
    AFunC Tryz.prog 66 [.slice (some ⟨t, 0, none⟩) l.length c, .int .i64 k, .bool b] H (.slice (some ⟨H.length, 0, none⟩) l.length 0) (H ++ [some ⟨(l.set k ((l.getD k vl0).1, (l.getD k vl0).2.1, (l.getD k vl0).2.2.1, b)).flatMap vlE, true, 71, 4⟩]) := by
  refine AFunC.of_body Tryz.func66 (by kernel_rfl) rfl (by kernel_rfl) (by simp [Tryz.ntmps66]) ?_
  have ht := hS.lt
  have al := hS.all (s := 4) (fun _ => rfl)
  have hml : (l.flatMap vlE).length = l.length * 4 := vlE_length l
  have hk4 : k * 4 + 4 ≤ l.length * 4 := by omega
  have cf := flatMap_cells vlE 4 (fun _ => rfl) vl0 l k hk
  simp only [vlE] at cf
  have sf := set_flat_eq (f := vlE) (s := 4) (l := l) (i := k) (fun _ => rfl) ((l.getD k vl0).1, (l.getD k vl0).2.1, (l.getD k vl0).2.2.1, b) hk
  simp -dsimp -implicitDefEqProofs (disch := omega) [go_sem, -List.getD_eq_getElem?_getD, ite_yes, ht, al, hk, hml, cf]
  refine ⟨by omega, ?_⟩
  refine fin_list [some 1] rfl ?_ (by simp -dsimp -implicitDefEqProofs (disch := omega) [go_sem, -List.getD_eq_getElem?_getD, ite_yes])
  simp -dsimp -implicitDefEqProofs (disch := omega) [go_sem, -List.getD_eq_getElem?_getD, ite_yes]
  exact .inl ⟨sf, (congrArg (fun x => List.all x flat) sf).symm.trans (vlE_flat _)⟩
theorem l18Opened_A (l : List Vl) (hl : l.length ≤ 1048577) (c : Nat) (ids : List Int) (hi : ids.length ≤ 1048577) (d o : Nat) (H : Heap) (t u : Nat) (hS : Sl vlE H t l) (hU : IdS H u o ids) :
    AFunC Tryz.prog 74 [.slice (some ⟨t, 0, none⟩) l.length c, .slice (some ⟨u, o, none⟩) ids.length d] H (.slice (some ⟨H.length, 0, none⟩) l.length 0) (H ++ [some ⟨(opL l ids).flatMap vlE, true, 71, 4⟩]) := by
  refine AFunC.of_body Tryz.func74 (by kernel_rfl) rfl (by kernel_rfl) (by simp [Tryz.ntmps74]) ?_
  have ht := hS.lt
  have hu := hU.lt
  have al := hS.all (s := 4) (fun _ => rfl)
  simp -dsimp -implicitDefEqProofs (disch := omega) [go_sem, -List.getD_eq_getElem?_getD, ite_yes, ht, hu, al]
  refine ⟨by omega, ?_⟩
  refine ALoop.intro (ι := Nat) (fun k => k ≤ l.length) (fun k => [(1, .slice (some ⟨u, o, none⟩) ids.length d), (5, .slice (some ⟨H.length, 0, none⟩) l.length 0), (6, .int .i64 k)])
    (fun k => H ++ [some ⟨(opTo l ids k).flatMap vlE, true, 71, 4⟩]) (fun k => l.length - k) 0 (by omega) ?_ ?_
  · refine weakS_mk [some 1] rfl ?_ (by simp -dsimp -implicitDefEqProofs (disch := omega) [go_sem, -List.getD_eq_getElem?_getD, ite_yes, ht, hu])
    simp -dsimp -implicitDefEqProofs (disch := omega) [go_sem, -List.getD_eq_getElem?_getD, ite_yes, opTo]
    exact .inl ⟨rfl, vlE_flat _⟩
  intro k hk
  by_cases hlt : k < l.length
  · have e := opTo_next l ids hlt
    have ol := opTo_length l ids k
    generalize opTo l ids k = m at *
    have hS' : Sl vlE (H ++ [some ⟨m.flatMap vlE, true, 71, 4⟩]) H.length m := Sl.of rfl
    have c0 := hS'.cell (s := 4) (fun _ => rfl) vl0 k 0 (by omega) (by omega)
    simp only [vlE, Nat.add_zero] at c0
    have hml : (m.flatMap vlE).length = l.length * 4 := by rw [vlE_length, ol]
    have hk4 : k * 4 + 1 ≤ l.length * 4 := by omega
    simp -dsimp -implicitDefEqProofs (disch := omega) [go_sem, -List.getD_eq_getElem?_getD, ite_yes, hlt, ht, hu, c0, hml]
    refine ACall.of (l1HasO_A ids (m.getD k vl0).1 hi d _ u o hU.app) ?_
    simp -dsimp -implicitDefEqProofs (disch := omega) [go_sem, -List.getD_eq_getElem?_getD, ite_yes, hlt, ht, hu, hml]
    refine AIf.of (fun h => ?_) (fun h => ?_)
    · have hv : ((m.getD k vl0).1, (m.getD k vl0).2.1, (m.getD k vl0).2.2.1, false) = opV ids (m.getD k vl0) := by simp only [opV, h, Bool.not_true, Bool.and_false]
      simp -dsimp -implicitDefEqProofs (disch := omega) [go_sem, -List.getD_eq_getElem?_getD, ite_yes, hlt, ht, hu, hml]
      refine ACall.of (ol ▸ l4Turned_A m (by omega) 0 k (by omega) false _ H.length hS') ?_
      rw [hv, ← e]
      simp -dsimp -implicitDefEqProofs (disch := omega) [go_sem, -List.getD_eq_getElem?_getD, ite_yes]
      refine LoopEnd.of (k + 1) (by omega) (by omega) (weakS_mk [some 1] rfl ?_ (by simp -dsimp -implicitDefEqProofs (disch := omega) [go_sem, -List.getD_eq_getElem?_getD, ite_yes, ht, hu]))
      simp -dsimp -implicitDefEqProofs (disch := omega) [go_sem, -List.getD_eq_getElem?_getD, ite_yes]
      exact .inl ⟨rfl, vlE_flat _⟩
    · have hv : m.getD k vl0 = opV ids (m.getD k vl0) := by simp only [opV, h, Bool.not_false, Bool.and_true]
      have hs : m.set k (opV ids (m.getD k vl0)) = m := by
        rw [← hv]
        refine List.ext_getElem (by simp) fun i h1 h2 => ?_
        rw [List.getElem_set]
        split
        · rename_i h; subst h; simp [List.getD_eq_getElem?_getD, h2]
        · rfl
      rw [hs] at e
      simp -dsimp -implicitDefEqProofs (disch := omega) [go_sem, -List.getD_eq_getElem?_getD, ite_yes]
      refine LoopEnd.of (k + 1) (by omega) (by omega) (weakS_mk [some 0] rfl ?_ (by simp -dsimp -implicitDefEqProofs (disch := omega) [go_sem, -List.getD_eq_getElem?_getD, ite_yes, ht, hu]))
      simp -dsimp -implicitDefEqProofs (disch := omega) [go_sem, -List.getD_eq_getElem?_getD, ite_yes]
      exact .inl ⟨by rw [e], vlE_flat _⟩
  · obtain rfl : k = l.length := by omega
    have ol := opTo_length l ids l.length
    simp -dsimp -implicitDefEqProofs (disch := omega) [go_sem, -List.getD_eq_getElem?_getD, ite_yes, hlt]
    refine fin_list [some 0] rfl ?_ (by simp -dsimp -implicitDefEqProofs (disch := omega) [go_sem, -List.getD_eq_getElem?_getD, ite_yes])
    simp -dsimp -implicitDefEqProofs (disch := omega) [go_sem, -List.getD_eq_getElem?_getD, ite_yes]
    exact .inl ⟨rfl, vlE_flat _⟩
/-- what is dry when some valves are opened -/
def dryO (n : Int) (ps : List Pp) (l : List Vl) (src : Int) (ids : List Int) : List Int := dryN (wetR ps (opL l ids) src) n.toNat
theorem dryO_length (n : Int) (ps : List Pp) (l : List Vl) (src : Int) (ids : List Int) : (dryO n ps l src ids).length ≤ n.toNat := dryN_length _ _
theorem l18Dry_A (n : Int) (ps : List Pp) (hN : NetAt n ps) (cp : Nat) (l : List Vl) (hl : l.length ≤ 1048577) (c : Nat) (src : Int) (hsrc : 1 ≤ src ∧ src ≤ n) (ids : List Int) (hi : ids.length ≤ 1048577) (d o : Nat) (H : Heap) (tp t u : Nat) (hP : Sl ppE H tp ps) (hS : Sl vlE H t l) (hU : IdS H u o ids) :
    AFunC Tryz.prog 52 [netV n tp ps.length cp, .slice (some ⟨t, 0, none⟩) l.length c, .int .i64 src, .slice (some ⟨u, o, none⟩) ids.length d] H (.slice (some ⟨H.length, 0, none⟩) (dryO n ps l src ids).length 0) (H ++ [some ⟨(dryO n ps l src ids).flatMap nmE, true, 3, 1⟩]) := by
  refine AFunC.of_body Tryz.func52 (by kernel_rfl) rfl (by kernel_rfl) (by simp [Tryz.ntmps52]) ?_
  have htp := hP.lt
  have ht := hS.lt
  have hu := hU.lt
  simp -dsimp -implicitDefEqProofs (disch := omega) [go_sem, -List.getD_eq_getElem?_getD, ite_yes, htp, ht, hu]
  refine ADraw.any H (by kernel_rfl) (by first | exact SubH.refl | exact SubH.app | exact SubH.both (by simp [subL])) ?_
  refine AAny.takes (fuel := 8) (by kernel_rfl) (by kernel_rfl) [1, 2, 4] (by kernel_rfl) (by kernel_rfl) ?_
  simp -dsimp -implicitDefEqProofs (disch := omega) [go_sem, -List.getD_eq_getElem?_getD, ite_yes, htp, ht, hu]
  refine AAny.two 7 0 3 (by kernel_rfl) (by kernel_rfl) (by kernel_rfl) ?_ ?_
  · simp -dsimp -implicitDefEqProofs (disch := omega) [go_sem, -List.getD_eq_getElem?_getD, ite_yes, htp, ht, hu]
    first | refine AAt.of (by first | exact SubH.refl | exact SubH.app | exact SubH.both (by simp [subL])) ?_ | (refine ⟨?_, AAt.of (by first | exact SubH.refl | exact SubH.app | exact SubH.both (by simp [subL])) ?_⟩; · omega)
    refine AAny.one 6 3 (by kernel_rfl) (by kernel_rfl) (by kernel_rfl) ?_
    simp -dsimp -implicitDefEqProofs (disch := omega) [go_sem, -List.getD_eq_getElem?_getD, ite_yes, htp, ht, hu]
    refine ACall.of (l18Opened_A l hl c ids hi d o _ t u hS.app hU.app) ?_
    simp -dsimp -implicitDefEqProofs (disch := omega) [go_sem, -List.getD_eq_getElem?_getD, ite_yes, htp, ht, hu]
    first | refine AAt.of (by first | exact SubH.refl | exact SubH.app | exact SubH.both (by simp [subL])) ?_ | (refine ⟨?_, AAt.of (by first | exact SubH.refl | exact SubH.app | exact SubH.both (by simp [subL])) ?_⟩; · omega)
    refine AAny.one 5 5 (by kernel_rfl) (by kernel_rfl) (by kernel_rfl) ?_
    simp -dsimp -implicitDefEqProofs (disch := omega) [go_sem, -List.getD_eq_getElem?_getD, ite_yes, htp, ht, hu]
    refine ACall.of (opL_length l ids ▸ l4Dry_A n ps hN cp (opL l ids) (by rw [opL_length]; exact hl) 0 src hsrc _ tp (H.length + 1) hP.app (Sl.of1 rfl)) ?_
    simp -dsimp -implicitDefEqProofs (disch := omega) [go_sem, -List.getD_eq_getElem?_getD, ite_yes, htp, ht, hu]
    first | refine AAt.of (by first | exact SubH.refl | exact SubH.app | exact SubH.both (by simp [subL])) ?_ | (refine ⟨?_, AAt.of (by first | exact SubH.refl | exact SubH.app | exact SubH.both (by simp [subL])) ?_⟩; · omega)
    refine AAny.takes (fuel := 0) (by kernel_rfl) (by kernel_rfl) [6, 7, 8, 9, 10] (by kernel_rfl) (by kernel_rfl) ?_
    simp -dsimp -implicitDefEqProofs (disch := omega) [go_sem, -List.getD_eq_getElem?_getD, ite_yes, htp, ht, hu]
    refine AAny.done (by kernel_rfl) ?_
    simp -dsimp -implicitDefEqProofs (disch := omega) [go_sem, -List.getD_eq_getElem?_getD, ite_yes, htp, ht, hu]
    refine fin_list [some 2] rfl ?_ (by simp -dsimp -implicitDefEqProofs (disch := omega) [go_sem, -List.getD_eq_getElem?_getD, ite_yes, dryO])
    simp -dsimp -implicitDefEqProofs (disch := omega) [go_sem, -List.getD_eq_getElem?_getD, ite_yes]
    exact .inl ⟨rfl, nmE_flat _⟩
  · simp -dsimp -implicitDefEqProofs (disch := omega) [go_sem, -List.getD_eq_getElem?_getD, ite_yes, htp, ht, hu]
    refine ACall.of (l18Opened_A l hl c ids hi d o _ t u hS.app hU.app) ?_
    simp -dsimp -implicitDefEqProofs (disch := omega) [go_sem, -List.getD_eq_getElem?_getD, ite_yes, htp, ht, hu]
    first | refine AAt.of (by first | exact SubH.refl | exact SubH.app | exact SubH.both (by simp [subL])) ?_ | (refine ⟨?_, AAt.of (by first | exact SubH.refl | exact SubH.app | exact SubH.both (by simp [subL])) ?_⟩; · omega)
    refine AAny.one 6 0 (by kernel_rfl) (by kernel_rfl) (by kernel_rfl) ?_
    simp -dsimp -implicitDefEqProofs (disch := omega) [go_sem, -List.getD_eq_getElem?_getD, ite_yes, htp, ht, hu]
    first | refine AAt.of (by first | exact SubH.refl | exact SubH.app | exact SubH.both (by simp [subL])) ?_ | (refine ⟨?_, AAt.of (by first | exact SubH.refl | exact SubH.app | exact SubH.both (by simp [subL])) ?_⟩; · omega)
    refine AAny.one 5 5 (by kernel_rfl) (by kernel_rfl) (by kernel_rfl) ?_
    simp -dsimp -implicitDefEqProofs (disch := omega) [go_sem, -List.getD_eq_getElem?_getD, ite_yes, htp, ht, hu]
    refine ACall.of (opL_length l ids ▸ l4Dry_A n ps hN cp (opL l ids) (by rw [opL_length]; exact hl) 0 src hsrc _ tp (H.length + 1) hP.app (Sl.of1 rfl)) ?_
    simp -dsimp -implicitDefEqProofs (disch := omega) [go_sem, -List.getD_eq_getElem?_getD, ite_yes, htp, ht, hu]
    first | refine AAt.of (by first | exact SubH.refl | exact SubH.app | exact SubH.both (by simp [subL])) ?_ | (refine ⟨?_, AAt.of (by first | exact SubH.refl | exact SubH.app | exact SubH.both (by simp [subL])) ?_⟩; · omega)
    refine AAny.takes (fuel := 0) (by kernel_rfl) (by kernel_rfl) [6, 7, 8, 9, 10] (by kernel_rfl) (by kernel_rfl) ?_
    simp -dsimp -implicitDefEqProofs (disch := omega) [go_sem, -List.getD_eq_getElem?_getD, ite_yes, htp, ht, hu]
    refine AAny.done (by kernel_rfl) ?_
    simp -dsimp -implicitDefEqProofs (disch := omega) [go_sem, -List.getD_eq_getElem?_getD, ite_yes, htp, ht, hu]
    refine fin_list [some 2] rfl ?_ (by simp -dsimp -implicitDefEqProofs (disch := omega) [go_sem, -List.getD_eq_getElem?_getD, ite_yes, dryO])
    simp -dsimp -implicitDefEqProofs (disch := omega) [go_sem, -List.getD_eq_getElem?_getD, ite_yes]
    exact .inl ⟨rfl, nmE_flat _⟩
/-- what is asked of a network, valves and a source -/
def askR (n : Int) (ps : List Pp) (l : List Vl) (src : Int) : Bool := goodV n ps l && (inB src 1 n && decide ((shutL l).length ≤ 6))
theorem askR_at {n : Int} {ps : List Pp} {l : List Vl} {src : Int} (h : askR n ps l src = true) : goodV n ps l = true ∧ NetAt n ps ∧ l.length ≤ 10 ∧ (1 ≤ src ∧ src ≤ n) ∧ (shutL l).length ≤ 6 := by
  unfold askR at h
  simp only [Bool.and_eq_true, decide_eq_true_eq, inB] at h
  exact ⟨h.1, (goodV_net h.1).1, (goodV_net h.1).2, h.2.1, h.2.2⟩
theorem canReopen_A (n : Int) (ps : List Pp) (hps : ps.length ≤ 1048577) (cp : Nat) (l : List Vl) (hl : l.length ≤ 1048577) (c : Nat) (src : Int) (H : Heap) (tp t : Nat) (hP : Sl ppE H tp ps) (hS : Sl vlE H t l) :
    AFunC Tryz.prog 26 [netV n tp ps.length cp, .slice (some ⟨t, 0, none⟩) l.length c, .int .i64 src] H (.bool (askR n ps l src)) H := by
  refine AFunC.of_body Tryz.func26 (by kernel_rfl) rfl (by kernel_rfl) (by simp [Tryz.ntmps26]) ?_
  have htp := hP.lt
  have ht := hS.lt
  have hsl := shutL_length l
  simp -dsimp -implicitDefEqProofs (disch := omega) [go_sem, -List.getD_eq_getElem?_getD, ite_yes, htp, ht]
  refine ACall.of (iValidValves_A n ps hps cp l hl c _ tp t hP.app hS.app) ?_
  cases hg : goodV n ps l
  · simp -dsimp -implicitDefEqProofs (disch := omega) [go_sem, -List.getD_eq_getElem?_getD, ite_yes]
    exact fin_flat rfl (by rw [askR, hg, Bool.false_and])
  simp -dsimp -implicitDefEqProofs (disch := omega) [go_sem, -List.getD_eq_getElem?_getD, ite_yes, htp, ht]
  refine ACall.of (nHas_A n tp ps.length cp src _) ?_
  cases hi : inB src 1 n
  · simp -dsimp -implicitDefEqProofs (disch := omega) [go_sem, -List.getD_eq_getElem?_getD, ite_yes]
    exact fin_flat rfl (by rw [askR, hg, hi, Bool.true_and, Bool.false_and])
  simp -dsimp -implicitDefEqProofs (disch := omega) [go_sem, -List.getD_eq_getElem?_getD, ite_yes, htp, ht]
  refine ACall.of (shutIds_A l hl c _ t hS.app) ?_
  simp -dsimp -implicitDefEqProofs (disch := omega) [go_sem, -List.getD_eq_getElem?_getD, ite_yes]
  exact fin_flat rfl (by rw [askR, hg, hi, Bool.true_and, Bool.true_and]; congr 1; rw [decide_eq_decide]; omega)
theorem l18Asked_A (n : Int) (ps : List Pp) (hps : ps.length ≤ 1048577) (cp : Nat) (l : List Vl) (hl : l.length ≤ 1048577) (c : Nat) (src : Int) (H : Heap) (tp t : Nat) (hP : Sl ppE H tp ps) (hS : Sl vlE H t l) :
    AFunC Tryz.prog 38 [netV n tp ps.length cp, .slice (some ⟨t, 0, none⟩) l.length c, .int .i64 src] H (.bool (askR n ps l src)) H := by
  refine AFunC.of_body Tryz.func38 (by kernel_rfl) rfl (by kernel_rfl) (by simp [Tryz.ntmps38]) ?_
  have htp := hP.lt
  have ht := hS.lt
  have hsl := shutL_length l
  simp -dsimp -implicitDefEqProofs (disch := omega) [go_sem, -List.getD_eq_getElem?_getD, ite_yes, htp, ht]
  refine ACall.of (l4Good_A n ps hps cp l hl c _ tp t hP.app hS.app) ?_
  cases hg : goodV n ps l
  · simp -dsimp -implicitDefEqProofs (disch := omega) [go_sem, -List.getD_eq_getElem?_getD, ite_yes]
    exact fin_flat rfl (by rw [askR, hg, Bool.false_and])
  have hn : goodN n ps = true := by
    unfold goodV at hg
    simp only [Bool.and_eq_true] at hg
    exact hg.1
  simp -dsimp -implicitDefEqProofs (disch := omega) [go_sem, -List.getD_eq_getElem?_getD, ite_yes, htp, ht]
  refine ACall.of (l2Node_A n ps hps cp src _ tp hP.app) ?_
  cases hi : inB src 1 n
  · simp -dsimp -implicitDefEqProofs (disch := omega) [go_sem, -List.getD_eq_getElem?_getD, ite_yes]
    exact fin_flat rfl (by rw [askR, hg, hi, Bool.true_and, Bool.false_and])
  simp -dsimp -implicitDefEqProofs (disch := omega) [go_sem, -List.getD_eq_getElem?_getD, ite_yes, hn, htp, ht]
  refine ACall.of (l18Shut_A l hl c _ t hS.app) ?_
  simp -dsimp -implicitDefEqProofs (disch := omega) [go_sem, -List.getD_eq_getElem?_getD, ite_yes]
  exact fin_flat rfl (by rw [askR, hg, hi, Bool.true_and, Bool.true_and]; congr 1; rw [decide_eq_decide]; omega)
end Go.Proofs.YtncblopbcnkinaaGreat
