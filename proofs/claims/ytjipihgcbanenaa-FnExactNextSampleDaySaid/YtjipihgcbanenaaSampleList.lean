/- Lists of samples: what is valid, and the last of a node and a kind. -/
import Derived.Test.YtjipihgcbanenaaAsc
import Derived.Test.YtjipihgcbanenaaRecSp
import Derived.Test.YtjipihgcbanenaaGood
namespace Go.Proofs.Ytjipihgcbanenaa
open Go.Am
set_option linter.unusedVariables false
set_option linter.unusedSimpArgs false
set_option maxRecDepth 100000
set_option maxHeartbeats 1000000

def goodSR (a b : Sp) : Bool := decide (a.1 ≤ b.1)
abbrev goodSTo (l : List Sp) (k : Nat) : Prop := ascTo (0, 0, 0, 0) isSmp goodSR l k
def goodS (l : List Sp) : Bool := asc (0, 0, 0, 0) isSmp goodSR l && decide (l.length ≤ 15)
theorem goodS_no {l : List Sp} {k : Nat} (hk : k < l.length) (h : isSmp (l.getD k (0, 0, 0, 0)) = false ∨ 0 < k ∧ goodSR (l.getD (k - 1) (0, 0, 0, 0)) (l.getD k (0, 0, 0, 0)) = false) : goodS l = false := by
  unfold goodS; rw [asc_no hk h]; rfl
theorem goodS_end {l : List Sp} (h : goodSTo l l.length) : goodS l = decide ((l.length : Int) ≤ 15) := by
  unfold goodS; rw [asc_yes h, Bool.true_and]
  by_cases h' : l.length ≤ 15
  · rw [decide_eq_true h', decide_eq_true (by omega)]
  · rw [decide_eq_false h', decide_eq_false (by omega)]
theorem goodS_len {l : List Sp} (h : goodS l = true) : l.length ≤ 15 := by
  simp only [goodS, Bool.and_eq_true, decide_eq_true_eq] at h
  exact h.2
theorem goodS_at {l : List Sp} (h : goodS l = true) {i : Nat} (hi : i < l.length) : isSmp (l.getD i (0, 0, 0, 0)) = true := by
  simp only [goodS, Bool.and_eq_true, decide_eq_true_eq] at h
  exact (asc_at h.1 i hi).1
theorem areSamples_A (l : List Sp) (hl : l.length ≤ 1048577) (c : Nat) (H : Heap) (t : Nat) (hS : Sl spE H t l) :
    AFunC Try.prog 26 [.slice (some ⟨t, 0, none⟩) l.length c] H (.bool (goodS l)) H := by
  refine AFunC.of_body Try.func26 (by kernel_rfl) rfl (by kernel_rfl) (by simp [Try.ntmps26]) ?_
  have ht := hS.lt
  have cs := fun k hk => hS.cells (s := 4) (fun _ => rfl) (0, 0, 0, 0) k hk
  have csk := fun k hk => hS.cell (s := 4) (fun _ => rfl) (0, 0, 0, 0) k 0 hk (by omega)
  simp only [Nat.add_zero, spE] at csk cs
  simp -dsimp -implicitDefEqProofs (disch := omega) [go_sem, -List.getD_eq_getElem?_getD, ite_yes]
  refine ALoop.intro (ι := Nat) (fun k => k ≤ l.length ∧ goodSTo l k) (fun k => [(0, .slice (some ⟨t, 0, none⟩) l.length c), (5, .slice (some ⟨t, 0, none⟩) l.length c), (6, .int .i64 l.length), (7, .int .i64 k)]) (fun _ => H) (fun k => l.length - k) 0 ⟨by omega, ascTo_zero⟩ ?_ ?_
  · exact weakS_same (by simp -dsimp -implicitDefEqProofs (disch := omega) [go_sem, -List.getD_eq_getElem?_getD, ite_yes, ht])
  · rintro k ⟨hk, hg⟩
    by_cases hlt : k < l.length
    · simp -dsimp -implicitDefEqProofs (disch := omega) [go_sem, -List.getD_eq_getElem?_getD, ite_yes, hlt, cs, ht]
      refine ADraw.quiet (by kernel_rfl) (by kernel_rfl) (by kernel_rfl) ?_
      simp -dsimp -implicitDefEqProofs (disch := omega) [go_sem, -List.getD_eq_getElem?_getD, ite_yes, hlt, cs, csk, ht]
      refine ACallQ.of (iValidSample_A (l.getD k (0, 0, 0, 0)) _) rfl ?_
      simp -dsimp -implicitDefEqProofs (disch := omega) [go_sem, -List.getD_eq_getElem?_getD, ite_yes, hlt, cs, csk, ht]
      refine AIf.of (fun h1 => ?_) (fun h1 => ?_)
      · simp -dsimp -implicitDefEqProofs (disch := omega) [go_sem, -List.getD_eq_getElem?_getD, ite_yes, hlt, cs, csk]
        exact fin_flat rfl (by rw [goodS_no hlt (.inl (by simpa using h1))])
      · simp -dsimp -implicitDefEqProofs (disch := omega) [go_sem, -List.getD_eq_getElem?_getD, ite_yes, hlt, cs, csk]
        refine AIf.of (fun h2 => ?_) (fun h2 => ?_)
        · simp at h2
          simp -dsimp -implicitDefEqProofs (disch := omega) [go_sem, -List.getD_eq_getElem?_getD, ite_yes, hlt, cs, csk, ht]
          refine AIf.of (fun h3 => ?_) (fun h3 => ?_)
          · simp -dsimp -implicitDefEqProofs (disch := omega) [go_sem, -List.getD_eq_getElem?_getD, ite_yes, hlt, cs, csk]
            exact fin_flat rfl (by rw [goodS_no hlt (.inr ⟨h2, by simpa [goodSR] using h3⟩)])
          · simp -dsimp -implicitDefEqProofs (disch := omega) [go_sem, -List.getD_eq_getElem?_getD, ite_yes, hlt, cs, csk]
            exact LoopEnd.of (k + 1) ⟨by omega, hg.next (by simpa using h1) fun _ => by simpa [goodSR] using h3⟩ (by omega) (weakS_drop (by simp -dsimp -implicitDefEqProofs (disch := omega) [go_sem, -List.getD_eq_getElem?_getD, ite_yes, ht]))
        · simp at h2
          simp -dsimp -implicitDefEqProofs (disch := omega) [go_sem, -List.getD_eq_getElem?_getD, ite_yes, hlt, cs, csk]
          exact LoopEnd.of (k + 1) ⟨by omega, hg.next (by simpa using h1) fun h => by omega⟩ (by omega) (weakS_drop (by simp -dsimp -implicitDefEqProofs (disch := omega) [go_sem, -List.getD_eq_getElem?_getD, ite_yes, ht]))
    · simp -dsimp -implicitDefEqProofs (disch := omega) [go_sem, -List.getD_eq_getElem?_getD, ite_yes, hlt]
      obtain rfl : k = l.length := by omega
      exact fin_flat0 rfl (by rw [goodS_end hg])
theorem l23Good_A (l : List Sp) (hl : l.length ≤ 1048577) (c : Nat) (H : Heap) (t : Nat) (hS : Sl spE H t l) :
    AFunC Try.prog 22 [.slice (some ⟨t, 0, none⟩) l.length c] H (.bool (goodS l)) H := by
  refine AFunC.of_body Try.func22 (by kernel_rfl) rfl (by kernel_rfl) (by simp [Try.ntmps22]) ?_
  have ht := hS.lt
  have cs := fun k hk => hS.cells (s := 4) (fun _ => rfl) (0, 0, 0, 0) k hk
  have csk := fun k hk => hS.cell (s := 4) (fun _ => rfl) (0, 0, 0, 0) k 0 hk (by omega)
  simp only [Nat.add_zero, spE] at csk cs
  simp -dsimp -implicitDefEqProofs (disch := omega) [go_sem, -List.getD_eq_getElem?_getD, ite_yes]
  refine ALoop.intro (ι := Nat) (fun k => k ≤ l.length ∧ goodSTo l k) (fun k => [(0, .slice (some ⟨t, 0, none⟩) l.length c), (3, .int .i64 k)]) (fun _ => H) (fun k => l.length - k) 0 ⟨by omega, ascTo_zero⟩ ?_ ?_
  · exact weakS_same (by simp -dsimp -implicitDefEqProofs (disch := omega) [go_sem, -List.getD_eq_getElem?_getD, ite_yes, ht])
  · rintro k ⟨hk, hg⟩
    by_cases hlt : k < l.length
    · simp -dsimp -implicitDefEqProofs (disch := omega) [go_sem, -List.getD_eq_getElem?_getD, ite_yes, hlt, cs, ht]
      refine ADraw.quiet (by kernel_rfl) (by kernel_rfl) (by kernel_rfl) ?_
      simp -dsimp -implicitDefEqProofs (disch := omega) [go_sem, -List.getD_eq_getElem?_getD, ite_yes, hlt, cs, csk, ht]
      refine ACallQ.of (l23One_A (l.getD k (0, 0, 0, 0)) _) rfl ?_
      simp -dsimp -implicitDefEqProofs (disch := omega) [go_sem, -List.getD_eq_getElem?_getD, ite_yes, hlt, cs, csk, ht]
      refine AIf.of (fun h1 => ?_) (fun h1 => ?_)
      · simp -dsimp -implicitDefEqProofs (disch := omega) [go_sem, -List.getD_eq_getElem?_getD, ite_yes, hlt, cs, csk]
        exact fin_flat0 rfl (by rw [goodS_no hlt (.inl (by simpa using h1))])
      · simp -dsimp -implicitDefEqProofs (disch := omega) [go_sem, -List.getD_eq_getElem?_getD, ite_yes, hlt, cs, csk]
        refine AIf.of (fun h2 => ?_) (fun h2 => ?_)
        · simp at h2
          simp -dsimp -implicitDefEqProofs (disch := omega) [go_sem, -List.getD_eq_getElem?_getD, ite_yes, hlt, cs, csk, ht]
          refine AIf.of (fun h3 => ?_) (fun h3 => ?_)
          · simp -dsimp -implicitDefEqProofs (disch := omega) [go_sem, -List.getD_eq_getElem?_getD, ite_yes, hlt, cs, csk]
            exact fin_flat0 rfl (by rw [goodS_no hlt (.inr ⟨h2, by simpa [goodSR] using h3⟩)])
          · simp -dsimp -implicitDefEqProofs (disch := omega) [go_sem, -List.getD_eq_getElem?_getD, ite_yes, hlt, cs, csk]
            exact LoopEnd.of (k + 1) ⟨by omega, hg.next (by simpa using h1) fun _ => by simpa [goodSR] using h3⟩ (by omega) (weakS_same (by simp -dsimp -implicitDefEqProofs (disch := omega) [go_sem, -List.getD_eq_getElem?_getD, ite_yes, ht]))
        · simp at h2
          simp -dsimp -implicitDefEqProofs (disch := omega) [go_sem, -List.getD_eq_getElem?_getD, ite_yes, hlt, cs, csk]
          exact LoopEnd.of (k + 1) ⟨by omega, hg.next (by simpa using h1) fun h => by omega⟩ (by omega) (weakS_same (by simp -dsimp -implicitDefEqProofs (disch := omega) [go_sem, -List.getD_eq_getElem?_getD, ite_yes, ht]))
    · simp -dsimp -implicitDefEqProofs (disch := omega) [go_sem, -List.getD_eq_getElem?_getD, ite_yes, hlt]
      obtain rfl : k = l.length := by omega
      exact fin_flat0 rfl (by rw [goodS_end hg])
/-- the last of the first k samples of a node and a kind, or -1 -/
def lastTo (l : List Sp) (node kind : Int) : Nat → Int
  | 0 => -1
  | k + 1 => if (l.getD k (0, 0, 0, 0)).2.1 = node ∧ (l.getD k (0, 0, 0, 0)).2.2.1 = kind then (k : Int) else lastTo l node kind k
theorem lastTo_lt (l : List Sp) (node kind : Int) : ∀ k, -1 ≤ lastTo l node kind k ∧ lastTo l node kind k < k
  | 0 => by simp [lastTo]
  | k + 1 => by
    have := lastTo_lt l node kind k
    simp only [lastTo]
    split <;> omega
theorem lastSample_A (l : List Sp) (node kind : Int) (hl : l.length ≤ 1048577) (c : Nat) (H : Heap) (t : Nat) (hS : Sl spE H t l) :
    AFunC Try.prog 36 [.slice (some ⟨t, 0, none⟩) l.length c, .int .i64 node, .int .i64 kind] H (.int .i64 (lastTo l node kind l.length)) H := by
  refine AFunC.of_body Try.func36 (by kernel_rfl) rfl (by kernel_rfl) (by simp [Try.ntmps36]) ?_
  have ht := hS.lt
  have cs1 := fun k hk => hS.cell (s := 4) (fun _ => rfl) (0, 0, 0, 0) k 1 hk (by omega)
  have cs2 := fun k hk => hS.cell (s := 4) (fun _ => rfl) (0, 0, 0, 0) k 2 hk (by omega)
  simp only [spE] at cs1 cs2
  simp -dsimp -implicitDefEqProofs (disch := omega) [go_sem, -List.getD_eq_getElem?_getD, ite_yes]
  refine ALoop.intro (ι := Nat) (fun k => k ≤ l.length ∧ lastTo l node kind l.length = lastTo l node kind k) (fun k => [(0, .slice (some ⟨t, 0, none⟩) l.length c), (1, .int .i64 node), (2, .int .i64 kind), (7, .int .i64 ((k : Int) - 1))]) (fun _ => H) (fun k => k) l.length ⟨by omega, rfl⟩ ?_ ?_
  · exact weakS_same (by simp -dsimp -implicitDefEqProofs (disch := omega) [go_sem, -List.getD_eq_getElem?_getD, ite_yes, ht])
  · rintro k ⟨hk, he⟩
    cases k with
    | zero =>
      simp -dsimp -implicitDefEqProofs (disch := omega) [go_sem, -List.getD_eq_getElem?_getD, ite_yes]
      exact fin_flat0 rfl (by rw [he]; rfl)
    | succ m =>
      have hm : m < l.length := by omega
      have e1 : ((m + 1 : Nat) : Int) - 1 = (m : Int) := by omega
      have c1 := cs1 m hm
      have c2 := cs2 m hm
      by_cases h1 : (l.getD m (0, 0, 0, 0)).2.1 = node
      · by_cases h2 : (l.getD m (0, 0, 0, 0)).2.2.1 = kind
        · have e : lastTo l node kind (m + 1) = (m : Int) := by simp only [lastTo]; rw [if_pos ⟨h1, h2⟩]
          rw [e] at he
          simp -dsimp -implicitDefEqProofs (disch := omega) [go_sem, -List.getD_eq_getElem?_getD, ite_yes, e1, hm, c1, c2, h1, h2]
          exact fin_flat0 rfl (by rw [he])
        · have e : lastTo l node kind (m + 1) = lastTo l node kind m := by simp only [lastTo]; rw [if_neg (fun h => h2 h.2)]
          rw [e] at he
          simp -dsimp -implicitDefEqProofs (disch := omega) [go_sem, -List.getD_eq_getElem?_getD, ite_yes, e1, hm, c1, c2, h1, h2]
          exact LoopEnd.of m ⟨by omega, he⟩ (by omega) (weakS_same (by simp -dsimp -implicitDefEqProofs (disch := omega) [go_sem, -List.getD_eq_getElem?_getD, ite_yes, ht]))
      · have e : lastTo l node kind (m + 1) = lastTo l node kind m := by simp only [lastTo]; rw [if_neg (fun h => h1 h.1)]
        rw [e] at he
        simp -dsimp -implicitDefEqProofs (disch := omega) [go_sem, -List.getD_eq_getElem?_getD, ite_yes, e1, hm, c1, c2, h1]
        exact LoopEnd.of m ⟨by omega, he⟩ (by omega) (weakS_same (by simp -dsimp -implicitDefEqProofs (disch := omega) [go_sem, -List.getD_eq_getElem?_getD, ite_yes, ht]))
theorem l23Last_A (l : List Sp) (node kind : Int) (hl : l.length ≤ 1048577) (c : Nat) (H : Heap) (t : Nat) (hS : Sl spE H t l) :
    AFunC Try.prog 32 [.slice (some ⟨t, 0, none⟩) l.length c, .int .i64 node, .int .i64 kind] H (.int .i64 (lastTo l node kind l.length)) H := by
  refine AFunC.of_body Try.func32 (by kernel_rfl) rfl (by kernel_rfl) (by simp [Try.ntmps32]) ?_
  have ht := hS.lt
  have cs1 := fun k hk => hS.cell (s := 4) (fun _ => rfl) (0, 0, 0, 0) k 1 hk (by omega)
  have cs2 := fun k hk => hS.cell (s := 4) (fun _ => rfl) (0, 0, 0, 0) k 2 hk (by omega)
  simp only [spE] at cs1 cs2
  simp -dsimp -implicitDefEqProofs (disch := omega) [go_sem, -List.getD_eq_getElem?_getD, ite_yes]
  refine ALoop.intro (ι := Nat) (fun k => k ≤ l.length) (fun k => [(0, .slice (some ⟨t, 0, none⟩) l.length c), (1, .int .i64 node), (2, .int .i64 kind), (7, .int .i64 (lastTo l node kind k)), (8, .int .i64 k)]) (fun _ => H) (fun k => l.length - k) 0 (by omega) ?_ ?_
  · exact weakS_same (by simp -dsimp -implicitDefEqProofs (disch := omega) [go_sem, -List.getD_eq_getElem?_getD, ite_yes, ht, lastTo])
  · intro k hk
    by_cases hm : k < l.length
    · have c1 := cs1 k hm
      have c2 := cs2 k hm
      by_cases h1 : (l.getD k (0, 0, 0, 0)).2.1 = node
      · by_cases h2 : (l.getD k (0, 0, 0, 0)).2.2.1 = kind
        · have e : lastTo l node kind (k + 1) = (k : Int) := by simp only [lastTo]; rw [if_pos ⟨h1, h2⟩]
          simp -dsimp -implicitDefEqProofs (disch := omega) [go_sem, -List.getD_eq_getElem?_getD, ite_yes, hm, c1, c2, h1, h2]
          exact LoopEnd.of (k + 1) (by omega) (by omega) (weakS_same (by simp -dsimp -implicitDefEqProofs (disch := omega) [go_sem, -List.getD_eq_getElem?_getD, ite_yes, ht, e]))
        · have e : lastTo l node kind (k + 1) = lastTo l node kind k := by simp only [lastTo]; rw [if_neg (fun h => h2 h.2)]
          simp -dsimp -implicitDefEqProofs (disch := omega) [go_sem, -List.getD_eq_getElem?_getD, ite_yes, hm, c1, c2, h1, h2]
          exact LoopEnd.of (k + 1) (by omega) (by omega) (weakS_same (by simp -dsimp -implicitDefEqProofs (disch := omega) [go_sem, -List.getD_eq_getElem?_getD, ite_yes, ht, e]))
      · have e : lastTo l node kind (k + 1) = lastTo l node kind k := by simp only [lastTo]; rw [if_neg (fun h => h1 h.1)]
        simp -dsimp -implicitDefEqProofs (disch := omega) [go_sem, -List.getD_eq_getElem?_getD, ite_yes, hm, c1, c2, h1]
        exact LoopEnd.of (k + 1) (by omega) (by omega) (weakS_same (by simp -dsimp -implicitDefEqProofs (disch := omega) [go_sem, -List.getD_eq_getElem?_getD, ite_yes, ht, e]))
    · simp -dsimp -implicitDefEqProofs (disch := omega) [go_sem, -List.getD_eq_getElem?_getD, ite_yes, hm]
      obtain rfl : k = l.length := by omega
      exact fin_flat0 rfl rfl
end Go.Proofs.Ytjipihgcbanenaa
