/- Nodes that become wet, plain. -/
import Derived.Test.YtamkdgjagjpmlaaGentle
namespace Go.Proofs.Ytamkdgjagjpmlaa
open Go.Am
set_option linter.unusedVariables false
/-- the first k nodes that are wet in S and not in R -/
def nwTo (R S : List Bool) : Nat → List Int
  | 0 => []
  | k + 1 => if (S.getD (k + 1) false && !R.getD (k + 1) false) = true then nwTo R S k ++ [((k + 1 : Nat) : Int)] else nwTo R S k
theorem nwTo_length (R S : List Bool) : ∀ k, (nwTo R S k).length ≤ k
  | 0 => by simp [nwTo]
  | k + 1 => by
    have := nwTo_length R S k
    rw [nwTo]
    split
    · rw [List.length_append, List.length_singleton]; omega
    · omega
/-- those of the first k of a list that are none of another -/
def spTo (D E : List Int) : Nat → List Int
  | 0 => []
  | k + 1 => if hasI E (D.getD k 0) = true then spTo D E k else spTo D E k ++ [D.getD k 0]
theorem spTo_length (D E : List Int) : ∀ k, (spTo D E k).length ≤ k
  | 0 => by simp [spTo]
  | k + 1 => by
    have := spTo_length D E k
    rw [spTo]
    split
    · omega
    · rw [List.length_append, List.length_singleton]; omega
theorem spTo_left (D F E : List Int) : ∀ k, k ≤ D.length → spTo (D ++ F) E k = spTo D E k
  | 0, _ => rfl
  | k + 1, h => by
    have g : (D ++ F).getD k 0 = D.getD k 0 := by
      rw [List.getD_eq_getElem?_getD, List.getD_eq_getElem?_getD, List.getElem?_append_left (by omega)]
    rw [spTo, spTo, g, spTo_left D F E k (by omega)]
/-- the reference's way is the program's -/
theorem spTo_eq (R S : List Bool) (n : Nat) : ∀ k, k ≤ n → spTo (dryN R k) (dryN S n) (dryN R k).length = nwTo R S k
  | 0, _ => rfl
  | k + 1, h => by
    have ih := spTo_eq R S n k (by omega)
    have hs := has_dryN (R := S) (j := k + 1) (k := n) (by omega) h
    rw [nwTo]
    cases hr : R.getD (k + 1) false
    · have e : dryN R (k + 1) = dryN R k ++ [((k + 1 : Nat) : Int)] := by
        rw [dryN, hr]; rfl
      rw [e, List.length_append, List.length_singleton, spTo, spTo_left _ _ _ _ (Nat.le_refl _), ih]
      have g : (dryN R k ++ [((k + 1 : Nat) : Int)]).getD (dryN R k).length 0 = ((k + 1 : Nat) : Int) := by
        rw [List.getD_eq_getElem?_getD, List.getElem?_append_right (Nat.le_refl _), Nat.sub_self]; rfl
      rw [g, hs]
      cases S.getD (k + 1) false <;> simp
    · have e : dryN R (k + 1) = dryN R k := by rw [dryN, hr]; rfl
      rw [e, ih]
      simp
/-- the nodes that become wet with the valve k of an order -/
noncomputable def nwF (n : Int) (ps : List Pp) (l : List Vl) (src : Int) (a : List Int) (k : Nat) : List Int := nwTo (wetR ps (opL l (a.take k)) src) (wetR ps (opL l (a.take (k + 1))) src) n.toNat
noncomputable def nwL (n : Int) (ps : List Pp) (l : List Vl) (src : Int) (a : List Int) : Nat → List (List Int)
  | 0 => []
  | k + 1 => nwL n ps l src a k ++ [nwF n ps l src a k]
theorem nwL_length (n : Int) (ps : List Pp) (l : List Vl) (src : Int) (a : List Int) : ∀ k, (nwL n ps l src a k).length = k
  | 0 => rfl
  | k + 1 => by rw [nwL, List.length_append, List.length_singleton, nwL_length n ps l src a k]
theorem nwL_mem {n : Int} {ps : List Pp} {l : List Vl} {src : Int} {a : List Int} {x : List Int} : ∀ {k}, x ∈ nwL n ps l src a k → ∃ i, i < k ∧ x = nwF n ps l src a i
  | 0, h => by cases h
  | k + 1, h => by
    rw [nwL] at h
    rcases List.mem_append.1 h with h | h
    · obtain ⟨i, hi, e⟩ := nwL_mem h
      exact ⟨i, by omega, e⟩
    · rw [List.mem_singleton] at h
      exact ⟨k, by omega, h⟩
theorem nwL_small {n : Int} (hn : 1 ≤ n ∧ n ≤ 8) {ps : List Pp} {l : List Vl} {src : Int} {a : List Int} {k : Nat} {x : List Int} (h : x ∈ nwL n ps l src a k) : x.length ≤ 8 := by
  obtain ⟨i, _, rfl⟩ := nwL_mem h
  have := nwTo_length (wetR ps (opL l (a.take i)) src) (wetR ps (opL l (a.take (i + 1))) src) n.toNat
  unfold nwF
  omega
end Go.Proofs.Ytamkdgjagjpmlaa
