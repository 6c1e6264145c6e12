/- The first place where a predicate holds. -/
import Derived.Test.YtncblopbcnkinaaGreatAm11
namespace Go.Proofs.YtncblopbcnkinaaGreat
/-- the first place where p holds, or -1 -/
def findTo {α : Type} (d : α) (p : α → Bool) (l : List α) (k : Nat) : Prop := ∀ i, i < k → p (l.getD i d) = false
inductive Found {α : Type} (d : α) (p : α → Bool) (l : List α) : Int → Prop
  | yes (i : Nat) (h1 : i < l.length) (h2 : p (l.getD i d) = true) (h3 : findTo d p l i) : Found d p l i
  | no (h : findTo d p l l.length) : Found d p l (-1)
theorem found_ex {α : Type} (d : α) (p : α → Bool) (l : List α) : ∀ (m k : Nat), l.length - k = m → findTo d p l k → k ≤ l.length → ∃ i, Found d p l i
  | 0, k, h1, h2, h3 => ⟨-1, .no (by rwa [show l.length = k by omega])⟩
  | m + 1, k, h1, h2, h3 => by
    cases hp : p (l.getD k d)
    · refine found_ex d p l m (k + 1) (by omega) (fun i hi => ?_) (by omega)
      rcases Nat.lt_or_ge i k with h | h
      · exact h2 i h
      · rw [show i = k by omega]; exact hp
    · exact ⟨k, .yes k (by omega) hp h2⟩
theorem found_uniq {α : Type} {d : α} {p : α → Bool} {l : List α} {i j : Int} (h : Found d p l i) (k : Found d p l j) : i = j := by
  cases h with
  | yes i h1 h2 h3 => cases k with
    | yes j k1 k2 k3 =>
      rcases Nat.lt_trichotomy i j with h | h | h
      · have := k3 i h; rw [h2] at this; cases this
      · rw [h]
      · have := h3 j h; rw [k2] at this; cases this
    | no k => have := k i h1; rw [h2] at this; cases this
  | no h => cases k with
    | yes j k1 k2 k3 => have := h j k1; rw [k2] at this; cases this
    | no k => rfl
theorem findTo.next {α : Type} {d : α} {p : α → Bool} {l : List α} {k : Nat} (h : findTo d p l k) (hp : p (l.getD k d) = false) : findTo d p l (k + 1) := fun i hi => by
  rcases Nat.lt_or_ge i k with h' | h'
  · exact h i h'
  · rw [show i = k by omega]; exact hp
end Go.Proofs.YtncblopbcnkinaaGreat
