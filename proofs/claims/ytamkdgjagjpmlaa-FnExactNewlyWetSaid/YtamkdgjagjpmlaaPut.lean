/- Numbers in ascending order: where one belongs, and the list with it; in plain Lean. -/
import Derived.Test.YtamkdgjagjpmlaaRecNm
namespace Go.Proofs.Ytamkdgjagjpmlaa
open Go.Am
set_option linter.unusedVariables false
set_option linter.unusedSimpArgs false

def place : List Int → Int → Nat
  | [], _ => 0
  | a :: l, n => if a < n then place l n + 1 else 0
theorem place_le : ∀ (l : List Int) (n : Int), place l n ≤ l.length
  | [], n => Nat.le_refl _
  | a :: l, n => by
    have := place_le l n
    simp only [place, List.length_cons]
    split <;> omega
theorem place_lt : ∀ (l : List Int) (n : Int) (i : Nat), i < place l n → l.getD i 0 < n
  | [], n, i, h => absurd h (Nat.not_lt_zero _)
  | a :: l, n, i, h => by
    simp only [place] at h
    split at h
    · rename_i ha
      cases i with
      | zero => exact ha
      | succ i => exact place_lt l n i (by omega)
    · exact absurd h (Nat.not_lt_zero _)
theorem place_at : ∀ (l : List Int) (n : Int), place l n < l.length → n ≤ l.getD (place l n) 0
  | [], n, h => absurd h (Nat.not_lt_zero _)
  | a :: l, n, h => by
    simp only [place] at h ⊢
    split
    · rename_i ha
      rw [if_pos ha] at h
      exact place_at l n (by simpa using h)
    · rename_i ha
      simp only [List.getD_cons_zero]; omega
theorem place_uniq {l : List Int} {n : Int} {k : Nat} (hk : k ≤ l.length) (h1 : ∀ i, i < k → l.getD i 0 < n) (h2 : k < l.length → n ≤ l.getD k 0) : k = place l n := by
  rcases Nat.lt_trichotomy k (place l n) with h | h | h
  · have := place_lt l n k h
    have := place_le l n
    have := h2 (by omega)
    omega
  · exact h
  · have := h1 (place l n) h
    have := place_at l n (by omega)
    omega
def Up (l : List Int) : Prop := l.Pairwise (· < ·)
theorem up_nil : Up [] := List.Pairwise.nil
theorem up_one (n : Int) : Up [n] := List.pairwise_singleton _ _
def putL (l : List Int) (n : Int) : List Int := l.take (place l n) ++ n :: l.drop (place l n)
theorem mem_putL {l : List Int} {n m : Int} : m ∈ putL l n ↔ m = n ∨ m ∈ l := by
  have : m ∈ l ↔ m ∈ l.take (place l n) ∨ m ∈ l.drop (place l n) := by
    rw [← List.mem_append, List.take_append_drop]
  rw [this]
  simp only [putL, List.mem_append, List.mem_cons]
  constructor
  · rintro (h | h | h)
    · exact .inr (.inl h)
    · exact .inl h
    · exact .inr (.inr h)
  · rintro (h | h | h)
    · exact .inr (.inl h)
    · exact .inl h
    · exact .inr (.inr h)
theorem putL_length (l : List Int) (n : Int) : (putL l n).length = l.length + 1 := by
  have := place_le l n
  simp only [putL, List.length_append, List.length_take, List.length_cons, List.length_drop]
  omega
theorem Up.mem_iff {n : Int} : ∀ {l : List Int}, Up l → (n ∈ l ↔ place l n < l.length ∧ l.getD (place l n) 0 = n)
  | [], h => by simp [place]
  | a :: l, h => by
    have h' := List.pairwise_cons.1 h
    have ih := Up.mem_iff (n := n) h'.2
    simp only [List.mem_cons, place, List.length_cons]
    split
    · rename_i ha
      rw [List.getD_cons_succ, ih]
      constructor
      · rintro (h | h)
        · omega
        · exact ⟨by omega, h.2⟩
      · rintro ⟨h1, h2⟩
        exact .inr ⟨by omega, h2⟩
    · rename_i ha
      rw [List.getD_cons_zero]
      constructor
      · rintro (h | h)
        · exact ⟨by omega, h.symm⟩
        · have := h'.1 n h; omega
      · rintro ⟨_, h⟩
        exact .inl h.symm
theorem putL_cons_lt {a n : Int} (h : a < n) (l : List Int) : putL (a :: l) n = a :: putL l n := by
  simp only [putL, place, if_pos h, List.take_succ_cons, List.drop_succ_cons, List.cons_append]
theorem putL_cons_ge {a n : Int} (h : ¬ a < n) (l : List Int) : putL (a :: l) n = n :: a :: l := by
  simp only [putL, place, if_neg h, List.take_zero, List.drop_zero, List.nil_append]
theorem Up.put {n : Int} : ∀ {l : List Int}, Up l → n ∉ l → Up (putL l n)
  | [], h, hn => by simp [putL, place, Up]
  | a :: l, h, hn => by
    have h' := List.pairwise_cons.1 h
    by_cases ha : a < n
    · rw [putL_cons_lt ha]
      refine List.pairwise_cons.2 ⟨fun m hm => ?_, Up.put h'.2 (fun h => hn (List.mem_cons_of_mem _ h))⟩
      rcases mem_putL.1 hm with rfl | hm
      · exact ha
      · exact h'.1 m hm
    · rw [putL_cons_ge ha]
      have hna : n ≠ a := fun e => hn (by simp [e])
      refine List.pairwise_cons.2 ⟨fun m hm => ?_, h⟩
      rcases List.mem_cons.1 hm with rfl | hm
      · omega
      · have := h'.1 m hm; omega
/-- whether a list has a number -/
def hasI (l : List Int) (n : Int) : Bool := decide (n ∈ l)
theorem hasI_put (l : List Int) (n m : Int) : hasI (putL l n) m = (decide (m = n) || hasI l m) := by
  simp [hasI, mem_putL]
theorem hasI_no {l : List Int} {n : Int} (h : ∀ i, i < l.length → l.getD i 0 ≠ n) : hasI l n = false := by
  refine decide_eq_false fun hm => ?_
  obtain ⟨i, hi, e⟩ := List.mem_iff_getElem.1 hm
  exact h i hi (by simp [List.getD_eq_getElem?_getD, hi, e])
theorem hasI_yes {l : List Int} {n : Int} {i : Nat} (hi : i < l.length) (h : l.getD i 0 = n) : hasI l n = true := by
  refine decide_eq_true ?_
  rw [← h, List.getD_eq_getElem?_getD, List.getElem?_eq_getElem hi]
  exact List.getElem_mem hi
end Go.Proofs.Ytamkdgjagjpmlaa
