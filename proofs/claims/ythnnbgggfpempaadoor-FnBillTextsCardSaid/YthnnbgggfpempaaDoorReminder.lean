/- ReminderLevel: both sides, and the law. -/
import Derived.Test.YthnnbgggfpempaaDoorBills
import Derived.Test.YthnnbgggfpempaaDoorFrac
namespace Go.Proofs.YthnnbgggfpempaaDoor
open Go.Am
set_option linter.unusedVariables false
set_option linter.unusedSimpArgs false
set_option maxRecDepth 100000

def remOk (l : List Bl) (day : Int) : Bool := goodB l && inB day 0 3650
def remQ (b : Bl) (day : Int) : Int := max 0 (day - b.2.1 - 1) / 30
def levTo (l : List Bl) (day : Int) : Nat → Int
  | 0 => 0
  | k + 1 => if (l.getD k (0, 0, 0, 0)).2.2.2 < (l.getD k (0, 0, 0, 0)).2.2.1 then max (levTo l day k) (min 3 (remQ (l.getD k (0, 0, 0, 0)) day)) else levTo l day k
theorem levTo_bound (l : List Bl) (day : Int) : ∀ k, 0 ≤ levTo l day k ∧ levTo l day k ≤ 3
  | 0 => by simp [levTo]
  | k + 1 => by
    have := levTo_bound l day k
    simp only [levTo]
    split <;> omega
def remN (l : List Bl) (day : Int) : Int := if remOk l day = true then levTo l day l.length else 0
/-- the level in the midst of the days of a bill -/
def inLev (L : Int) (b : Bl) (day : Int) (d : Nat) : Int := if b.2.2.2 < b.2.2.1 then max L (min ((d : Int) - 1) (remQ b day)) else L
theorem inLev_one {L : Int} (h : 0 ≤ L) (b : Bl) (day : Int) : inLev L b day 1 = L := by
  unfold inLev remQ
  split <;> omega
theorem iRem_A (l : List Bl) (day : Int) (hl : l.length ≤ 1048577) (c : Nat) (H : Heap) (t : Nat) (hS : Sl blE H t l) :
    AFunC Tryd.prog 28 [.slice (some ⟨t, 0, none⟩) l.length c, .int .i64 day] H (.tuple #[.int .i64 (remN l day), .bool (remOk l day)]) H := by
  refine AFunC.of_body Tryd.func28 (by kernel_rfl) rfl (by kernel_rfl) (by simp [Tryd.ntmps28]) ?_
  have ht := hS.lt
  have cs := fun k hk => hS.cells (s := 4) (fun _ => rfl) (0, 0, 0, 0) k hk
  simp only [blE] at cs
  simp -dsimp -implicitDefEqProofs (disch := omega) [go_sem, -List.getD_eq_getElem?_getD, ite_yes]
  refine ACall.of (iValidBills_A l hl c H t hS) ?_
  cases hg : goodB l
  · simp -dsimp -implicitDefEqProofs (disch := omega) [go_sem, -List.getD_eq_getElem?_getD, ite_yes]
    exact fin_flat0 rfl (by simp [remN, remOk, hg])
  have hat := (goodB_at hg).2
  have h12 := (goodB_at hg).1
  simp -dsimp -implicitDefEqProofs (disch := omega) [go_sem, -List.getD_eq_getElem?_getD, ite_yes]
  refine ACall.of (isDay_A _ _) ?_
  cases hd : inB day 0 3650
  · simp -dsimp -implicitDefEqProofs (disch := omega) [go_sem, -List.getD_eq_getElem?_getD, ite_yes]
    exact fin_flat0 rfl (by simp [remN, remOk, hg, hd])
  have hd' := hd
  simp only [inB, Bool.and_eq_true, decide_eq_true_eq] at hd'
  simp -dsimp -implicitDefEqProofs (disch := omega) [go_sem, -List.getD_eq_getElem?_getD, ite_yes]
  refine ALoop.intro (ι := Nat) (fun k => k ≤ l.length) (fun k => [(1, .int .i64 day), (6, .int .i64 (levTo l day k)), (18, .slice (some ⟨t, 0, none⟩) l.length c), (19, .int .i64 l.length), (20, .int .i64 k)]) (fun _ => H) (fun k => l.length - k) 0 (by omega) ?_ ?_
  · exact weakS_same (by simp -dsimp -implicitDefEqProofs (disch := omega) [go_sem, -List.getD_eq_getElem?_getD, ite_yes, ht, levTo])
  · intro k hk
    by_cases hlt : k < l.length
    · have b1 := hat k hlt
      have b2 := levTo_bound l day k
      have e1 : levTo l day (k + 1) = inLev (levTo l day k) (l.getD k (0, 0, 0, 0)) day 4 := by
        simp only [levTo, inLev]; rfl
      generalize hb : l.getD k (0, 0, 0, 0) = b at *
      generalize levTo l day k = L at *
      have cs' := cs k hlt
      rw [hb] at cs'
      simp -dsimp -implicitDefEqProofs (disch := omega) [go_sem, -List.getD_eq_getElem?_getD, ite_yes, hlt, cs', ht]
      refine ALoop.intro (ι := Nat) (fun d => 1 ≤ d ∧ d ≤ 4) (fun d => [(1, .int .i64 day), (6, .int .i64 (inLev L b day d)), (8, .pointer (some ⟨H.length, 0, none⟩)), (9, .int .i64 d), (18, .slice (some ⟨t, 0, none⟩) l.length c), (19, .int .i64 l.length), (20, .int .i64 k)]) (fun _ => H ++ [some ⟨[.int .i64 b.1, .int .i64 b.2.1, .int .i64 b.2.2.1, .int .i64 b.2.2.2], true, 42, 1⟩]) (fun d => 4 - d) 1 (by omega) ?_ ?_
      · refine weakS_mk [some 0] rfl ?_ (by simp -dsimp -implicitDefEqProofs (disch := omega) [go_sem, -List.getD_eq_getElem?_getD, ite_yes, ht, inLev_one b2.1])
        simp -dsimp -implicitDefEqProofs (disch := omega) [go_sem, -List.getD_eq_getElem?_getD, ite_yes]
        exact .inl ⟨rfl, rfl⟩
      · rintro d ⟨hd1, hd2⟩
        by_cases hd4 : d < 4
        · have hd5 : (d : Int) ≤ 3 := by omega
          simp -dsimp -implicitDefEqProofs (disch := omega) [go_sem, -List.getD_eq_getElem?_getD, ite_yes, hd5]
          refine AIf.of (fun h => ?_) (fun h => ?_)
          · simp only [decide_eq_true_eq] at h
            simp -dsimp -implicitDefEqProofs (disch := omega) [go_sem, -List.getD_eq_getElem?_getD, ite_yes]
            refine AIf.of (fun h2 => ?_) (fun h2 => ?_)
            · simp only [decide_eq_true_eq] at h2
              have e2 : inLev L b day (d + 1) = if inLev L b day d < (d : Int) then (d : Int) else inLev L b day d := by
                have e2 : inLev L b day (d + 1) = max (inLev L b day d) d := by
                  unfold inLev remQ
                  rw [if_pos h, if_pos h]
                  omega
                rw [e2]
                split <;> omega
              simp -dsimp -implicitDefEqProofs (disch := omega) [go_sem, -List.getD_eq_getElem?_getD, ite_yes]
              refine LoopEnd.of (d + 1) (by omega) (by omega) (weakS_mk [some 0] rfl ?_ (by simp -dsimp -implicitDefEqProofs (disch := omega) [go_sem, -List.getD_eq_getElem?_getD, ite_yes, ht, e2]))
              simp -dsimp -implicitDefEqProofs (disch := omega) [go_sem, -List.getD_eq_getElem?_getD, ite_yes]
              exact .inl ⟨rfl, rfl⟩
            · simp only [decide_eq_false_iff_not] at h2
              have e2 : inLev L b day (d + 1) = inLev L b day d := by
                unfold inLev remQ
                rw [if_pos h, if_pos h]
                omega
              simp -dsimp -implicitDefEqProofs (disch := omega) [go_sem, -List.getD_eq_getElem?_getD, ite_yes]
              refine LoopEnd.of (d + 1) (by omega) (by omega) (weakS_mk [some 0] rfl ?_ (by simp -dsimp -implicitDefEqProofs (disch := omega) [go_sem, -List.getD_eq_getElem?_getD, ite_yes, ht, e2]))
              simp -dsimp -implicitDefEqProofs (disch := omega) [go_sem, -List.getD_eq_getElem?_getD, ite_yes]
              exact .inl ⟨rfl, rfl⟩
          · simp only [decide_eq_false_iff_not] at h
            have e2 : inLev L b day (d + 1) = inLev L b day d := by
              unfold inLev
              rw [if_neg h, if_neg h]
            simp -dsimp -implicitDefEqProofs (disch := omega) [go_sem, -List.getD_eq_getElem?_getD, ite_yes]
            refine LoopEnd.of (d + 1) (by omega) (by omega) (weakS_mk [some 0] rfl ?_ (by simp -dsimp -implicitDefEqProofs (disch := omega) [go_sem, -List.getD_eq_getElem?_getD, ite_yes, ht, e2]))
            simp -dsimp -implicitDefEqProofs (disch := omega) [go_sem, -List.getD_eq_getElem?_getD, ite_yes]
            exact .inl ⟨rfl, rfl⟩
        · have hd5 : ¬ (d : Int) ≤ 3 := by omega
          obtain rfl : d = 4 := by omega
          simp -dsimp -implicitDefEqProofs (disch := omega) [go_sem, -List.getD_eq_getElem?_getD, ite_yes]
          exact LoopEnd.of (k + 1) (by omega) (by omega) (weakS_drop (by simp -dsimp -implicitDefEqProofs (disch := omega) [go_sem, -List.getD_eq_getElem?_getD, ite_yes, ht, e1]))
    · simp -dsimp -implicitDefEqProofs (disch := omega) [go_sem, -List.getD_eq_getElem?_getD, ite_yes, hlt]
      obtain rfl : k = l.length := by omega
      exact fin_flat0 rfl (by simp [remN, remOk, hg, hd])
theorem l20Open_A (r : Bl) (H : Heap) : AFunC Tryd.prog 88 [.agg #[.int .i64 r.1, .int .i64 r.2.1, .int .i64 r.2.2.1, .int .i64 r.2.2.2]] H (.bool (decide (r.2.2.2 < r.2.2.1))) H := by
  refine AFunC.of_body Tryd.func88 (by kernel_rfl) rfl (by kernel_rfl) (by simp [Tryd.ntmps88]) ?_
  simp -dsimp -implicitDefEqProofs (disch := omega) [go_sem, -List.getD_eq_getElem?_getD, ite_yes]
  exact fin_flat rfl rfl
theorem sRem_A (l : List Bl) (day : Int) (hl : l.length ≤ 1048577) (c : Nat) (H : Heap) (t : Nat) (hS : Sl blE H t l) :
    AFunC Tryd.prog 29 [.slice (some ⟨t, 0, none⟩) l.length c, .int .i64 day] H (.tuple #[.int .i64 (remN l day), .bool (remOk l day)]) H := by
  refine AFunC.of_body Tryd.func29 (by kernel_rfl) rfl (by kernel_rfl) (by simp [Tryd.ntmps29]) ?_
  have ht := hS.lt
  have cs := fun k hk => hS.cells (s := 4) (fun _ => rfl) (0, 0, 0, 0) k hk
  have cs1 := fun k hk => hS.cell (s := 4) (fun _ => rfl) (0, 0, 0, 0) k 1 hk (by omega)
  simp only [blE] at cs cs1
  simp -dsimp -implicitDefEqProofs (disch := omega) [go_sem, -List.getD_eq_getElem?_getD, ite_yes]
  refine ACall.of (l20Good_A l hl c H t hS) ?_
  cases hg : goodB l
  · simp -dsimp -implicitDefEqProofs (disch := omega) [go_sem, -List.getD_eq_getElem?_getD, ite_yes]
    exact fin_flat0 rfl (by simp [remN, remOk, hg])
  have hat := (goodB_at hg).2
  have h12 := (goodB_at hg).1
  simp -dsimp -implicitDefEqProofs (disch := omega) [go_sem, -List.getD_eq_getElem?_getD, ite_yes]
  refine ACall.of (l19Day_A _ _) ?_
  cases hd : inB day 0 3650
  · simp -dsimp -implicitDefEqProofs (disch := omega) [go_sem, -List.getD_eq_getElem?_getD, ite_yes]
    exact fin_flat0 rfl (by simp [remN, remOk, hg, hd])
  have hd' := hd
  simp only [inB, Bool.and_eq_true, decide_eq_true_eq] at hd'
  simp -dsimp -implicitDefEqProofs (disch := omega) [go_sem, -List.getD_eq_getElem?_getD, ite_yes]
  refine ALoop.intro (ι := Nat) (fun k => k ≤ l.length) (fun k => [(0, .slice (some ⟨t, 0, none⟩) l.length c), (1, .int .i64 day), (6, .int .i64 (levTo l day k)), (7, .int .i64 k)]) (fun _ => H) (fun k => l.length - k) 0 (by omega) ?_ ?_
  · exact weakS_same (by simp -dsimp -implicitDefEqProofs (disch := omega) [go_sem, -List.getD_eq_getElem?_getD, ite_yes, ht, levTo])
  · intro k hk
    by_cases hlt : k < l.length
    · have b1 := hat k hlt
      have b2 := levTo_bound l day k
      have b3 : 0 ≤ remQ (l.getD k (0, 0, 0, 0)) day ∧ remQ (l.getD k (0, 0, 0, 0)) day ≤ 3650 := by unfold remQ; omega
      have e1 : levTo l day (k + 1) = if (l.getD k (0, 0, 0, 0)).2.2.2 < (l.getD k (0, 0, 0, 0)).2.2.1 then max (levTo l day k) (min 3 (remQ (l.getD k (0, 0, 0, 0)) day)) else levTo l day k := rfl
      have e3 : max 0 (day - (l.getD k (0, 0, 0, 0)).2.1 - 1) / 30 = remQ (l.getD k (0, 0, 0, 0)) day := rfl
      have e4 : 0 ≤ max 0 (day - (l.getD k (0, 0, 0, 0)).2.1 - 1) := by omega
      simp -dsimp -implicitDefEqProofs (disch := omega) [go_sem, -List.getD_eq_getElem?_getD, ite_yes, hlt, ht, cs]
      refine ACall.of (l20Open_A (l.getD k (0, 0, 0, 0)) _) ?_
      simp -dsimp -implicitDefEqProofs (disch := omega) [go_sem, -List.getD_eq_getElem?_getD, ite_yes]
      refine AIf.of (fun h => ?_) (fun h => ?_)
      · simp only [decide_eq_true_eq] at h
        rw [if_pos h] at e1
        simp -dsimp -implicitDefEqProofs (disch := omega) [go_sem, -List.getD_eq_getElem?_getD, ite_yes, cs1, hlt]
        refine ACall.of (l1Most_A _ _ _) ?_
        simp -dsimp -implicitDefEqProofs (disch := omega) [go_sem, -List.getD_eq_getElem?_getD, ite_yes, e4, e3]
        refine ACall.of (l1Least_A _ _ _) ?_
        simp -dsimp -implicitDefEqProofs (disch := omega) [go_sem, -List.getD_eq_getElem?_getD, ite_yes]
        refine ACall.of (l1Most_A _ _ _) ?_
        simp -dsimp -implicitDefEqProofs (disch := omega) [go_sem, -List.getD_eq_getElem?_getD, ite_yes]
        exact LoopEnd.of (k + 1) (by omega) (by omega) (weakS_same (by simp -dsimp -implicitDefEqProofs (disch := omega) [go_sem, -List.getD_eq_getElem?_getD, ite_yes, ht, e1]))
      · simp only [decide_eq_false_iff_not] at h
        rw [if_neg h] at e1
        simp -dsimp -implicitDefEqProofs (disch := omega) [go_sem, -List.getD_eq_getElem?_getD, ite_yes]
        exact LoopEnd.of (k + 1) (by omega) (by omega) (weakS_same (by simp -dsimp -implicitDefEqProofs (disch := omega) [go_sem, -List.getD_eq_getElem?_getD, ite_yes, ht, e1]))
    · simp -dsimp -implicitDefEqProofs (disch := omega) [go_sem, -List.getD_eq_getElem?_getD, ite_yes, hlt]
      obtain rfl : k = l.length := by omega
      exact fin_flat0 rfl (by simp [remN, remOk, hg, hd])
end Go.Proofs.YthnnbgggfpempaaDoor
