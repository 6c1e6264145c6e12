/- Lists whose elements stand as they should, and whose keys ascend. -/
import Derived.Test.YtncblopbcnkinaaGreatAm11
namespace Go.Proofs.YtncblopbcnkinaaGreat
section
variable {α : Type} {d : α} {P : α → Bool} {R : α → α → Bool} {l : List α} {k : Nat}
/-- the first k elements stand as they should: each by itself, and each beside the one before -/
def ascTo (d : α) (P : α → Bool) (R : α → α → Bool) (l : List α) (k : Nat) : Prop := ∀ i, i < k → P (l.getD i d) = true ∧ (0 < i → R (l.getD (i - 1) d) (l.getD i d) = true)
instance ascTo_dec (d : α) (P : α → Bool) (R : α → α → Bool) (l : List α) (k : Nat) : Decidable (ascTo d P R l k) := by unfold ascTo; infer_instance
def asc (d : α) (P : α → Bool) (R : α → α → Bool) (l : List α) : Bool := decide (ascTo d P R l l.length)
theorem ascTo_zero : ascTo d P R l 0 := fun i hi => by omega
theorem ascTo.next (h : ascTo d P R l k) (h1 : P (l.getD k d) = true) (h2 : 0 < k → R (l.getD (k - 1) d) (l.getD k d) = true) : ascTo d P R l (k + 1) := by
  intro i hi
  rcases Nat.lt_or_ge i k with h' | h'
  · exact h i h'
  · obtain rfl : i = k := by omega
    exact ⟨h1, h2⟩
theorem asc_no (hk : k < l.length) (h : P (l.getD k d) = false ∨ 0 < k ∧ R (l.getD (k - 1) d) (l.getD k d) = false) : asc d P R l = false := by
  unfold asc
  refine decide_eq_false fun h' => ?_
  have := h' k hk
  rcases h with h | ⟨h0, h⟩
  · rw [this.1] at h; cases h
  · rw [this.2 h0] at h; cases h
theorem asc_yes (h : ascTo d P R l l.length) : asc d P R l = true := decide_eq_true h
theorem asc_at (h : asc d P R l = true) : ∀ i, i < l.length → P (l.getD i d) = true ∧ (0 < i → R (l.getD (i - 1) d) (l.getD i d) = true) := of_decide_eq_true h
end
end Go.Proofs.YtncblopbcnkinaaGreat
