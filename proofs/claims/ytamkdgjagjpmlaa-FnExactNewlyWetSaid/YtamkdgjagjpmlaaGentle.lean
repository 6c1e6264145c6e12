/- IsGentle: both sides. -/
import Derived.Test.YtamkdgjagjpmlaaOrder
namespace Go.Proofs.Ytamkdgjagjpmlaa
open Go.Am
set_option linter.unusedVariables false
set_option linter.unusedSimpArgs false
set_option maxRecDepth 100000
set_option maxHeartbeats 4000000

def vlIs (id : Int) (v : Vl) : Bool := decide (v.1 = id)
/-- the valve with an Id -/
def vlAt (l : List Vl) (id : Int) : Vl := l.getD (ixOf (vlIs id) l).toNat vl0
/-- whether water reaches the pipe or the node of a valve -/
def tchB (ps : List Pp) (R : List Bool) (v : Vl) : Bool := R.getD v.2.2.1.toNat false || R.getD (9 + (pipeIx ps v.2.1).toNat) false
theorem vl_ok {n : Int} {ps : List Pp} {l : List Vl} (h : goodV n ps l = true) {i : Nat} (hi : i < l.length) : (∃ q : Nat, pipeIx ps (l.getD i vl0).2.1 = (q : Int) ∧ q < ps.length) ∧ 1 ≤ (l.getD i vl0).2.2.1 ∧ (l.getD i vl0).2.2.1 ≤ n := by
  have hN := (goodV_net h).1
  unfold goodV at h
  simp only [Bool.and_eq_true, decide_eq_true_eq] at h
  have := h.2.2 i hi
  unfold oneV at this
  simp only [Bool.and_eq_true] at this
  have ho := this.2.2.1
  unfold onP at ho
  simp only [Bool.and_eq_true, Bool.or_eq_true, decide_eq_true_eq] at ho
  rcases ix_cases pp0 (pipeIs (l.getD i vl0).2.1) ps with ⟨h1, _⟩ | ⟨q, h1, h2, _⟩
  · have : pipeIx ps (l.getD i vl0).2.1 = -1 := h1
    omega
  · have hp : pipeIx ps (l.getD i vl0).2.1 = (q : Int) := h1
    rw [hp, Int.toNat_natCast] at ho
    have := hN.f_end q h2
    refine ⟨⟨q, hp, h2⟩, ?_⟩
    rcases ho.2 with e | e <;> omega
theorem shutTo_mem (l : List Vl) : ∀ (k : Nat), ∀ x ∈ shutTo l k, ∃ i, i < k ∧ x = (l.getD i vl0).1
  | 0, x, h => absurd h (by simp [shutTo])
  | k + 1, x, h => by
    rw [shutTo] at h
    split at h
    · rcases List.mem_append.1 h with h | h
      · obtain ⟨i, hi, e⟩ := shutTo_mem l k x h; exact ⟨i, by omega, e⟩
      · exact ⟨k, by omega, List.mem_singleton.1 h⟩
    · obtain ⟨i, hi, e⟩ := shutTo_mem l k x h; exact ⟨i, by omega, e⟩
theorem vlIs_ix {l : List Vl} {id : Int} (h : hasI (shutL l) id = true) : ∃ q : Nat, ixOf (vlIs id) l = (q : Int) ∧ q < l.length ∧ vlAt l id = l.getD q vl0 := by
  obtain ⟨i, hi, e⟩ := shutTo_mem l l.length id (of_decide_eq_true h)
  rcases ix_cases vl0 (vlIs id) l with ⟨_, h2⟩ | ⟨q, h1, h2, _⟩
  · have := of_decide_eq_false (h2 i hi)
    exact absurd e.symm this
  · exact ⟨q, h1, h2, by rw [vlAt, h1, Int.toNat_natCast]⟩
theorem mem_dryN {R : List Bool} {j : Nat} : ∀ k, (((j : Nat) : Int) ∈ dryN R k) ↔ (1 ≤ j ∧ j ≤ k ∧ R.getD j false = false)
  | 0 => by simp [dryN]; omega
  | k + 1 => by
    rw [dryN]
    have ih := mem_dryN (R := R) (j := j) k
    split
    · rename_i h
      rw [ih]
      constructor
      · rintro ⟨h1, h2, h3⟩; exact ⟨h1, by omega, h3⟩
      · rintro ⟨h1, h2, h3⟩
        refine ⟨h1, ?_, h3⟩
        rcases Nat.lt_or_ge j (k + 1) with h' | h'
        · omega
        · obtain rfl : j = k + 1 := by omega
          rw [h] at h3; cases h3
    · rename_i h
      rw [List.mem_append, ih, List.mem_singleton]
      constructor
      · rintro (⟨h1, h2, h3⟩ | e)
        · exact ⟨h1, by omega, h3⟩
        · obtain rfl : j = k + 1 := by omega
          exact ⟨by omega, by omega, by simpa using h⟩
      · rintro ⟨h1, h2, h3⟩
        rcases Nat.lt_or_ge j (k + 1) with h' | h'
        · exact .inl ⟨h1, by omega, h3⟩
        · exact .inr (by omega)
theorem mem_dryP {R : List Bool} {j : Nat} : ∀ k, (((j : Nat) : Int) ∈ dryP R k) ↔ (j < k ∧ R.getD (9 + j) false = false)
  | 0 => by simp [dryP]
  | k + 1 => by
    rw [dryP]
    have ih := mem_dryP (R := R) (j := j) k
    split
    · rename_i h
      rw [ih]
      constructor
      · rintro ⟨h2, h3⟩; exact ⟨by omega, h3⟩
      · rintro ⟨h2, h3⟩
        refine ⟨?_, h3⟩
        rcases Nat.lt_or_ge j k with h' | h'
        · omega
        · obtain rfl : j = k := by omega
          rw [h] at h3; cases h3
    · rename_i h
      rw [List.mem_append, ih, List.mem_singleton]
      constructor
      · rintro (⟨h2, h3⟩ | e)
        · exact ⟨by omega, h3⟩
        · obtain rfl : j = k := by omega
          exact ⟨by omega, by simpa using h⟩
      · rintro ⟨h2, h3⟩
        rcases Nat.lt_or_ge j k with h' | h'
        · exact .inl ⟨h', h3⟩
        · exact .inr (by omega)
theorem has_dryN {R : List Bool} {j k : Nat} (h1 : 1 ≤ j) (h2 : j ≤ k) : hasI (dryN R k) (j : Int) = !R.getD j false := by
  unfold hasI
  rw [decide_eq_decide.2 (mem_dryN k)]
  by_cases h : R.getD j false = true
  · rw [show (!R.getD j false) = false by rw [h]; rfl]
    exact decide_eq_false fun h' => by rw [h] at h'; cases h'.2.2
  · have h' : R.getD j false = false := by simpa using h
    rw [show (!R.getD j false) = true by rw [h']; rfl]
    exact decide_eq_true ⟨h1, h2, h'⟩
theorem has_dryP {R : List Bool} {j k : Nat} (h2 : j < k) : hasI (dryP R k) (j : Int) = !R.getD (9 + j) false := by
  unfold hasI
  rw [decide_eq_decide.2 (mem_dryP k)]
  by_cases h : R.getD (9 + j) false = true
  · rw [show (!R.getD (9 + j) false) = false by rw [h]; rfl]
    exact decide_eq_false fun h' => by rw [h] at h'; cases h'.2
  · have h' : R.getD (9 + j) false = false := by simpa using h
    rw [show (!R.getD (9 + j) false) = true by rw [h']; rfl]
    exact decide_eq_true ⟨h2, h'⟩
theorem opL_congr (l : List Vl) {a b : List Int} (h : ∀ x, hasI a x = hasI b x) : opL l a = opL l b := by
  refine List.ext_getElem (by rw [opL_length, opL_length]) fun i h1 h2 => ?_
  rw [opL_length] at h1
  have e1 := opL_getD l a h1
  have e2 := opL_getD l b h1
  have : opV a (l.getD i vl0) = opV b (l.getD i vl0) := by unfold opV; rw [h]
  rw [this, ← e2, List.getD_eq_getElem?_getD, List.getElem?_eq_getElem (by rw [opL_length]; exact h1), List.getD_eq_getElem?_getD, List.getElem?_eq_getElem (by rw [opL_length]; exact h1)] at e1
  simpa using e1
theorem opL_perm (l : List Vl) {a b : List Int} (h : a.Perm b) : opL l a = opL l b := opL_congr l fun x => by unfold hasI; rw [decide_eq_decide]; exact h.mem_iff
/-- whether water reaches a valve after some are opened -/
def rchB (ps : List Pp) (l : List Vl) (src : Int) (ids : List Int) (id : Int) : Bool := tchB ps (wetR ps (opL l ids) src) (vlAt l id)
/-- whether a step is gentle -/
def gtlB (ps : List Pp) (l : List Vl) (src : Int) (a : List Int) (k : Nat) : Bool := rchB ps l src (a.take k) (a.getD k 0) || !rchB ps l src (shutL l) (a.getD k 0)
def gtlTo (ps : List Pp) (l : List Vl) (src : Int) (a : List Int) (k : Nat) : Prop := ∀ i, i < k → gtlB ps l src a i = true
instance gtlTo_dec (ps : List Pp) (l : List Vl) (src : Int) (a : List Int) (k : Nat) : Decidable (gtlTo ps l src a k) := by unfold gtlTo; infer_instance
def gtlN (ps : List Pp) (l : List Vl) (src : Int) (a : List Int) : Bool := decide (gtlTo ps l src a a.length)
theorem gtlN_no {ps : List Pp} {l : List Vl} {src : Int} {a : List Int} {k : Nat} (hk : k < a.length) (h : gtlB ps l src a k = false) : gtlN ps l src a = false :=
  decide_eq_false fun h' => by have := h' k hk; rw [h] at this; cases this
theorem gtlTo.next {ps : List Pp} {l : List Vl} {src : Int} {a : List Int} {k : Nat} (h : gtlTo ps l src a k) (h1 : gtlB ps l src a k = true) : gtlTo ps l src a (k + 1) := by
  intro i hi
  rcases Nat.lt_or_ge i k with h' | h'
  · exact h i h'
  · obtain rfl : i = k := by omega
    exact h1
end Go.Proofs.Ytamkdgjagjpmlaa
