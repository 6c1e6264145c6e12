/- Meters: what the functions on readings compute. -/
import Derived.Test.YtokafhinmakdnaaFacts
import Derived.Test.YtokafhinmakdnaaAm11
import Derived.Test.YtokafhinmakdnaaRecRd
import Derived.Test.YtokafhinmakdnaaDays
namespace Go.Proofs.Ytokafhinmakdnaa
open Go.Am
set_option linter.unusedVariables false
set_option linter.unusedSimpArgs false
set_option maxRecDepth 100000

def isRd (r : Rd) : Bool := inB r.1 0 3650 && inB r.2 0 99999
/-- the readings up to the k-th stand as they should -/
def goodTo (l : List Rd) (k : Nat) : Prop := ∀ i, i < k → isRd (l.getD i (0, 0)) = true ∧ (0 < i → (l.getD (i - 1) (0, 0)).1 < (l.getD i (0, 0)).1)
instance goodTo_dec (l : List Rd) (k : Nat) : Decidable (goodTo l k) := by unfold goodTo; infer_instance
def good (l : List Rd) : Bool := decide (goodTo l l.length ∧ l.length ≤ 12)
theorem goodTo.next {l : List Rd} {k : Nat} (h : goodTo l k) (h1 : isRd (l.getD k (0, 0)) = true) (h2 : 0 < k → (l.getD (k - 1) (0, 0)).1 < (l.getD k (0, 0)).1) : goodTo l (k + 1) := by
  intro i hi
  rcases Nat.lt_or_ge i k with h' | h'
  · exact h i h'
  · obtain rfl : i = k := by omega
    exact ⟨h1, h2⟩
theorem good_no {l : List Rd} {k : Nat} (hk : k < l.length) (h : isRd (l.getD k (0, 0)) = false ∨ 0 < k ∧ (l.getD k (0, 0)).1 ≤ (l.getD (k - 1) (0, 0)).1) : good l = false := by
  unfold good
  refine decide_eq_false fun h' => ?_
  have := h'.1 k hk
  rcases h with h | h
  · rw [this.1] at h; cases h
  · have := this.2 h.1; omega
theorem good_end {l : List Rd} (h : goodTo l l.length) : good l = decide ((l.length : Int) ≤ 12) := by
  unfold good
  by_cases h' : l.length ≤ 12
  · rw [decide_eq_true ⟨h, h'⟩, decide_eq_true (by omega)]
  · rw [decide_eq_false (fun h => h' h.2), decide_eq_false (by omega)]
theorem good_at {l : List Rd} (h : good l = true) : l.length ≤ 12 ∧ ∀ i, i < l.length → 0 ≤ (l.getD i (0, 0)).1 ∧ (l.getD i (0, 0)).1 ≤ 3650 ∧ 0 ≤ (l.getD i (0, 0)).2 ∧ (l.getD i (0, 0)).2 ≤ 99999 ∧ (0 < i → (l.getD (i - 1) (0, 0)).1 < (l.getD i (0, 0)).1) := by
  unfold good at h
  have h := of_decide_eq_true h
  refine ⟨h.2, fun i hi => ?_⟩
  have := h.1 i hi
  simp only [isRd, inB, Bool.and_eq_true, decide_eq_true_eq] at this
  omega
end Go.Proofs.Ytokafhinmakdnaa
