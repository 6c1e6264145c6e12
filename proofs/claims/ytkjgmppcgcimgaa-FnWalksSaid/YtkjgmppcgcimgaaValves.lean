/- Valves: what is valid, and where one is. -/
import Derived.Test.YtkjgmppcgcimgaaNetS
namespace Go.Proofs.Ytkjgmppcgcimgaa
open Go.Am
set_option linter.unusedVariables false
set_option linter.unusedSimpArgs false
set_option maxRecDepth 100000
set_option maxHeartbeats 2000000

theorem ix_cases {α : Type} (d : α) (p : α → Bool) (l : List α) : (ixOf p l = -1 ∧ ∀ i, i < l.length → p (l.getD i d) = false) ∨ ∃ q : Nat, ixOf p l = (q : Int) ∧ q < l.length ∧ p (l.getD q d) = true ∧ ∀ i, i < q → p (l.getD i d) = false := by
  have h := found_ix d p l
  generalize ixOf p l = r at *
  cases h with
  | yes i h1 h2 h3 => exact .inr ⟨i, rfl, h1, h2, h3⟩
  | no h => exact .inl ⟨rfl, h⟩
theorem getD_take' {α : Type} {l : List α} {i k : Nat} {d : α} (h : i < k) : (l.take k).getD i d = l.getD i d := by
  rw [List.getD_eq_getElem?_getD, List.getElem?_take_of_lt h, ← List.getD_eq_getElem?_getD]
/-- whether a pipe has a node as one of its ends -/
def onP (ps : List Pp) (id nd : Int) : Bool := decide (0 ≤ pipeIx ps id) && (decide ((ps.getD (pipeIx ps id).toNat pp0).2.1 = nd) || decide ((ps.getD (pipeIx ps id).toNat pp0).2.2.1 = nd))
def sameV (v x : Vl) : Bool := decide (x.2.1 = v.2.1) && decide (x.2.2.1 = v.2.2.1)
def twinV (l : List Vl) (i : Nat) : Bool := decide (0 ≤ ixOf (sameV (l.getD i vl0)) (l.take i))
def oneV (ps : List Pp) (l : List Vl) (i : Nat) : Bool := inB (l.getD i vl0).1 1 99 && (!(decide (0 < i) && decide ((l.getD i vl0).1 ≤ (l.getD (i - 1) vl0).1)) && (onP ps (l.getD i vl0).2.1 (l.getD i vl0).2.2.1 && !twinV l i))
def goodVTo (ps : List Pp) (l : List Vl) (k : Nat) : Prop := ∀ i, i < k → oneV ps l i = true
instance goodVTo_dec (ps : List Pp) (l : List Vl) (k : Nat) : Decidable (goodVTo ps l k) := by unfold goodVTo; infer_instance
def goodV (n : Int) (ps : List Pp) (l : List Vl) : Bool := goodN n ps && (decide (l.length ≤ 10) && decide (goodVTo ps l l.length))
theorem goodVTo.next {ps : List Pp} {l : List Vl} {k : Nat} (h : goodVTo ps l k) (h1 : oneV ps l k = true) : goodVTo ps l (k + 1) := by
  intro i hi
  rcases Nat.lt_or_ge i k with h' | h'
  · exact h i h'
  · obtain rfl : i = k := by omega
    exact h1
theorem goodV_no {n : Int} {ps : List Pp} {l : List Vl} {k : Nat} (hk : k < l.length) (h : oneV ps l k = false) : goodV n ps l = false := by
  unfold goodV
  rw [decide_eq_false (p := goodVTo ps l l.length) (fun h' => by have := h' k hk; rw [h] at this; cases this), Bool.and_false, Bool.and_false]
theorem goodV_end {n : Int} {ps : List Pp} {l : List Vl} (hn : goodN n ps = true) (hl : l.length ≤ 10) (h : goodVTo ps l l.length) : goodV n ps l = true := by
  unfold goodV
  rw [hn, decide_eq_true hl, decide_eq_true h]; rfl
theorem wl_vl {σ : Sig} {m : Nat} (v : Vl) : WL σ m [.int .i64 v.1, .int .i64 v.2.1, .int .i64 v.2.2.1, .bool v.2.2.2] [.int .i64 v.1, .int .i64 v.2.1, .int .i64 v.2.2.1, .bool v.2.2.2] := .inl ⟨rfl, rfl⟩


theorem twinV_yes {l : List Vl} {m k : Nat} (hmk : m < k) (hml : m < l.length) (h : sameV (l.getD k vl0) (l.getD m vl0) = true) : twinV l k = true := by
  unfold twinV
  rcases ix_cases vl0 (sameV (l.getD k vl0)) (l.take k) with ⟨_, h2⟩ | ⟨q, h2, _⟩
  · have := h2 m (by rw [List.length_take]; omega)
    rw [getD_take' hmk, h] at this
    cases this
  · rw [h2]; exact decide_eq_true (by omega)
theorem twinV_no {l : List Vl} {k : Nat} (hk : k ≤ l.length) (h : findTo vl0 (sameV (l.getD k vl0)) l k) : twinV l k = false := by
  unfold twinV
  rcases ix_cases vl0 (sameV (l.getD k vl0)) (l.take k) with ⟨h2, _⟩ | ⟨q, h2, h3, h4, _⟩
  · rw [h2]; rfl
  · rw [List.length_take] at h3
    rw [getD_take' (by omega), h q (by omega)] at h4
    cases h4

end Go.Proofs.Ytkjgmppcgcimgaa
