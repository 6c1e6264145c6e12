/- Taking a reading: plain. -/
import Derived.Test.YtokafhinmakdnaaSeeAlarm
namespace Go.Proofs.Ytokafhinmakdnaa
open Go.Am
set_option linter.unusedVariables false
set_option linter.unusedSimpArgs false
abbrev aD : Al := (0, 0, 0, false)
abbrev rD : Ar := (0, 0, 0, 0)
/-- the place of a node among alarms -/
def lowN (node : Int) : List Al → Nat
  | [] => 0
  | a :: r => if a.1 < node then lowN node r + 1 else 0
theorem lowN_le (node : Int) : ∀ l, lowN node l ≤ l.length
  | [] => Nat.le_refl _
  | a :: r => by have := lowN_le node r; rw [lowN]; split <;> simp <;> omega
theorem lowN_lt (node : Int) : ∀ l k, k < lowN node l → (l.getD k aD).1 < node
  | [], k, h => by simp [lowN] at h
  | a :: r, k, h => by
    rw [lowN] at h
    split at h
    · rename_i ha
      cases k with
      | zero => exact ha
      | succ k => exact lowN_lt node r k (by omega)
    · omega
theorem lowN_at (node : Int) : ∀ l, lowN node l < l.length → node ≤ (l.getD (lowN node l) aD).1
  | [], h => by simp at h
  | a :: r, h => by
    rw [lowN] at h ⊢
    split
    · rename_i ha
      rw [if_pos ha] at h
      exact lowN_at node r (by simp at h; omega)
    · rename_i ha
      show node ≤ a.1
      omega
/-- in order, and valid -/
def Ord (l : List Al) : Prop := (∀ a ∈ l, isAl a = true) ∧ l.Pairwise fun a b => a.1 < b.1
theorem getD_el {α : Type} {l : List α} {d : α} {k : Nat} (h : k < l.length) : l.getD k d = l[k] := by rw [List.getD_eq_getElem?_getD, List.getElem?_eq_getElem h]; rfl
theorem goodA_ord {l : List Al} : goodA l = true ↔ Ord l := by
  constructor
  · intro h
    have ha := asc_at h
    refine ⟨fun a hm => ?_, List.pairwise_iff_getElem.2 fun i j hi hj hij => ?_⟩
    · obtain ⟨i, hi, rfl⟩ := List.getElem_of_mem hm
      have := (ha i hi).1
      rwa [getD_el hi] at this
    · have key : ∀ k, i + k + 1 < l.length → (l.getD i aD).1 < (l.getD (i + k + 1) aD).1 := by
        intro k
        induction k with
        | zero =>
          intro hk
          have := (ha (i + 1) (by omega)).2 (by omega)
          exact of_decide_eq_true this
        | succ k ih =>
          intro hk
          have h1 := ih (by omega)
          have h2 : (l.getD (i + (k + 1) + 1 - 1) aD).1 < (l.getD (i + (k + 1) + 1) aD).1 := of_decide_eq_true ((ha (i + (k + 1) + 1) hk).2 (by omega))
          rw [Nat.add_sub_cancel] at h2
          have e : i + (k + 1) = i + k + 1 := by omega
          rw [e] at h2 ⊢
          exact Int.lt_trans h1 h2
      have := key (j - i - 1) (by omega)
      rw [show i + (j - i - 1) + 1 = j by omega, getD_el hi, getD_el hj] at this
      exact this
  · rintro ⟨h1, h2⟩
    refine goodA_end fun i hi => ⟨?_, fun h0 => ?_⟩
    · rw [getD_el hi]; exact h1 _ (List.getElem_mem _)
    · rw [getD_el hi, getD_el (show i - 1 < l.length by omega)]
      exact decide_eq_true (List.pairwise_iff_getElem.1 h2 (i - 1) i (by omega) hi (by omega))
def hasN (l : List Al) (node : Int) : Bool := decide (lowN node l < l.length ∧ (l.getD (lowN node l) aD).1 = node)
/-- where the alarms behind the node begin -/
def nextN (l : List Al) (node : Int) : Nat := lowN node l + (if hasN l node = true then 1 else 0)
theorem nextN_le (l : List Al) (node : Int) : nextN l node ≤ l.length := by
  have := lowN_le node l
  unfold nextN
  split
  · rename_i h
    have := (of_decide_eq_true h).1
    omega
  · omega
theorem drop_gt {l : List Al} (h : Ord l) (node : Int) {k : Nat} (hk : nextN l node ≤ k) (hl : k < l.length) : node < (l.getD k aD).1 := by
  have hp := lowN_at node l
  have mono : ∀ i j, i < j → j < l.length → (l.getD i aD).1 < (l.getD j aD).1 := fun i j hij hj => by
    rw [getD_el (show i < l.length by omega), getD_el hj]
    exact List.pairwise_iff_getElem.1 h.2 i j (by omega) hj hij
  unfold nextN at hk
  split at hk
  · rename_i hh
    have := (of_decide_eq_true hh).2
    have := mono (lowN node l) k (by omega) hl
    omega
  · rename_i hh
    rcases Nat.lt_or_ge (lowN node l) k with h1 | h1
    · have := mono (lowN node l) k h1 hl
      have := hp (by omega)
      omega
    · have e : lowN node l = k := by omega
      have h2 := hp (by omega)
      rw [e] at h2
      have : ¬ (l.getD k aD).1 = node := fun h3 => hh (decide_eq_true ⟨by omega, by rw [e]; exact h3⟩)
      omega
/-- the old kind -/
def oldN (l : List Al) (node : Int) : Int := if hasN l node = true then (l.getD (lowN node l) aD).2.1 else 0
/-- the alarm of a node after a reading -/
def newA (rule : Ar) (l : List Al) (r : Rg) : Al :=
  if kindN rule (oldN l r.2.1) r.2.2 = oldN l r.2.1 then (if hasN l r.2.1 = true then l.getD (lowN r.2.1 l) aD else (r.2.1, 0, 0, false)) else (r.2.1, kindN rule (oldN l r.2.1) r.2.2, r.1, false)
def take1 (rule : Ar) (l : List Al) (r : Rg) : List Al :=
  l.take (lowN r.2.1 l) ++ (if kindN rule (oldN l r.2.1) r.2.2 = 0 then [] else [newA rule l r]) ++ l.drop (nextN l r.2.1)
def atRule (node : Int) (a : Ar) : Bool := decide (a.1 = node)
noncomputable def ruleI (rs : List Ar) (node : Int) : Int := Classical.choose (found_ex rD (atRule node) rs rs.length 0 (by omega) (fun i hi => by omega) (by omega))
theorem ruleI_found (rs : List Ar) (node : Int) : Found rD (atRule node) rs (ruleI rs node) := Classical.choose_spec (found_ex rD (atRule node) rs rs.length 0 (by omega) (fun i hi => by omega) (by omega))
noncomputable def takeL (rs : List Ar) (l : List Al) (r : Rg) : List Al := if ruleI rs r.2.1 < 0 then l else take1 (rs.getD (ruleI rs r.2.1).toNat rD) l r
theorem ruleI_lt (rs : List Ar) (node : Int) : ruleI rs node < rs.length ∧ -1 ≤ ruleI rs node := by
  have := ruleI_found rs node
  generalize ruleI rs node = i at this
  cases this with
  | yes i h1 _ _ => omega
  | no h => omega
theorem found_low {l : List Al} (h : Ord l) (node : Int) : Found aD (atNode node) l (if hasN l node = true then (lowN node l : Int) else -1) := by
  have h1 := lowN_lt node l
  split
  · rename_i hh
    have := of_decide_eq_true hh
    refine .yes _ this.1 (decide_eq_true this.2) fun j hj => decide_eq_false ?_
    have := h1 j hj
    omega
  · rename_i hh
    refine .no fun j hj => decide_eq_false ?_
    rcases Nat.lt_or_ge j (lowN node l) with hlt | hge
    · have := h1 j hlt
      omega
    · have := drop_gt h node (k := j) (by unfold nextN; rw [if_neg hh]; omega) hj
      omega
theorem kindN_rng (rule : Ar) (old v : Int) (h : 0 ≤ old ∧ old ≤ 2) : 0 ≤ kindN rule old v ∧ kindN rule old v ≤ 2 := by
  unfold kindN
  split
  · omega
  · split
    · omega
    · split <;> omega
theorem mem_take_lt {l : List Al} {node : Int} {a : Al} (h : a ∈ l.take (lowN node l)) : a.1 < node := by
  obtain ⟨i, hi, rfl⟩ := List.getElem_of_mem h
  rw [List.length_take] at hi
  have := lowN_lt node l i (by omega)
  rw [List.getElem_take]
  rwa [getD_el (by omega)] at this
theorem mem_drop_gt {l : List Al} (ho : Ord l) {node : Int} {a : Al} (h : a ∈ l.drop (nextN l node)) : node < a.1 := by
  obtain ⟨i, hi, rfl⟩ := List.getElem_of_mem h
  rw [List.length_drop] at hi
  have := drop_gt ho node (k := nextN l node + i) (by omega) (by omega)
  rw [List.getElem_drop]
  rwa [getD_el (by omega)] at this
theorem ordAl_at {l : List Al} (h : Ord l) {k : Nat} (hk : k < l.length) : isAl (l.getD k aD) = true := by rw [getD_el hk]; exact h.1 _ (List.getElem_mem _)
theorem isAl_rng {a : Al} (h : isAl a = true) : (1 ≤ a.1 ∧ a.1 ≤ 8) ∧ (1 ≤ a.2.1 ∧ a.2.1 ≤ 2) ∧ 0 ≤ a.2.2.1 ∧ a.2.2.1 ≤ 9999 := by
  simp only [isAl, inB, Bool.and_eq_true, decide_eq_true_eq] at h
  omega
theorem oldN_rng {l : List Al} (h : Ord l) (node : Int) : 0 ≤ oldN l node ∧ oldN l node ≤ 2 ∧ (hasN l node = true → 1 ≤ oldN l node) := by
  unfold oldN
  split
  · rename_i hh
    have := isAl_rng (ordAl_at h (of_decide_eq_true hh).1)
    omega
  · rename_i hh
    exact ⟨by omega, by omega, fun h => absurd h hh⟩
theorem newA_node {rule : Ar} {l : List Al} {r : Rg} : (newA rule l r).1 = r.2.1 := by
  unfold newA
  split
  · split
    · rename_i hh
      exact (of_decide_eq_true hh).2
    · rfl
  · rfl
theorem newA_ok {rule : Ar} {l : List Al} {r : Rg} (h : Ord l) (hr : isRg r = true) (hk : ¬ kindN rule (oldN l r.2.1) r.2.2 = 0) : isAl (newA rule l r) = true := by
  have ho := oldN_rng h r.2.1
  have kr := kindN_rng rule (oldN l r.2.1) r.2.2 (by omega)
  simp only [isRg, inB, Bool.and_eq_true, decide_eq_true_eq] at hr
  unfold newA
  split
  · rename_i e
    split
    · rename_i hh
      exact ordAl_at h (of_decide_eq_true hh).1
    · rename_i hh
      exfalso
      apply hk
      rw [e]
      unfold oldN
      rw [if_neg hh]
  · simp only [isAl, inB, Bool.and_eq_true, decide_eq_true_eq]
    omega
theorem take1_ord {rule : Ar} {l : List Al} {r : Rg} (h : Ord l) (hr : isRg r = true) : Ord (take1 rule l r) := by
  unfold take1
  refine ⟨fun a ha => ?_, ?_⟩
  · simp only [List.mem_append] at ha
    rcases ha with (ha | ha) | ha
    · exact h.1 a (List.mem_of_mem_take ha)
    · split at ha
      · cases ha
      · rename_i hk
        rw [List.mem_singleton] at ha
        rw [ha]
        exact newA_ok h hr hk
    · exact h.1 a (List.mem_of_mem_drop ha)
  · refine List.pairwise_append.2 ⟨List.pairwise_append.2 ⟨h.2.sublist (List.take_sublist _ _), ?_, fun a ha b hb => ?_⟩, h.2.sublist (List.drop_sublist _ _), fun a ha b hb => ?_⟩
    · split <;> simp
    · have := mem_take_lt ha
      split at hb
      · cases hb
      · rw [List.mem_singleton] at hb
        rw [hb, newA_node]
        exact this
    · have hg := mem_drop_gt h hb
      rw [List.mem_append] at ha
      rcases ha with ha | ha
      · have := mem_take_lt ha
        omega
      · split at ha
        · cases ha
        · rw [List.mem_singleton] at ha
          rw [ha, newA_node]
          exact hg
theorem takeL_ord {rs : List Ar} {l : List Al} {r : Rg} (h : Ord l) (hr : isRg r = true) : Ord (takeL rs l r) := by
  unfold takeL
  split
  · exact h
  · exact take1_ord h hr
/-- the alarms without the node's -/
def offL (l : List Al) (node : Int) : List Al := l.take (lowN node l) ++ l.drop (nextN l node)
theorem take_has {l : List Al} {node : Int} (hh : hasN l node = true) : l.take (lowN node l) ++ l.getD (lowN node l) aD :: l.drop (lowN node l + 1) = l := by
  have := (of_decide_eq_true hh).1
  rw [getD_el this]
  rw [List.getElem_cons_drop, List.take_append_drop]
/-- nothing changes -/
theorem take1_same {rule : Ar} {l : List Al} {r : Rg} (h : Ord l) (hk : kindN rule (oldN l r.2.1) r.2.2 = oldN l r.2.1) : take1 rule l r = l := by
  have ho := oldN_rng h r.2.1
  unfold take1 newA nextN
  rw [hk]
  simp only [if_true]
  by_cases hh : hasN l r.2.1 = true
  · have := ho.2.2 hh
    rw [if_neg (by omega), if_pos hh, if_pos hh, List.append_assoc, List.singleton_append]
    exact take_has hh
  · have e : oldN l r.2.1 = 0 := by unfold oldN; rw [if_neg hh]
    rw [if_pos e, if_neg hh, Nat.add_zero, List.append_nil, List.take_append_drop]
theorem take1_off {rule : Ar} {l : List Al} {r : Rg} (hk : kindN rule (oldN l r.2.1) r.2.2 = 0) : take1 rule l r = offL l r.2.1 := by
  unfold take1 offL
  rw [if_pos hk, List.append_nil]
theorem take1_new {rule : Ar} {l : List Al} {r : Rg} (hk : ¬ kindN rule (oldN l r.2.1) r.2.2 = oldN l r.2.1) (h0 : ¬ kindN rule (oldN l r.2.1) r.2.2 = 0) :
    take1 rule l r = (offL l r.2.1).take (lowN r.2.1 l) ++ (r.2.1, kindN rule (oldN l r.2.1) r.2.2, r.1, false) :: (offL l r.2.1).drop (lowN r.2.1 l) := by
  have hp := lowN_le r.2.1 l
  unfold take1 offL newA
  rw [if_neg h0, if_neg hk]
  have tl : (l.take (lowN r.2.1 l)).length = lowN r.2.1 l := by rw [List.length_take]; omega
  have e1 : (l.take (lowN r.2.1 l) ++ l.drop (nextN l r.2.1)).take (lowN r.2.1 l) = l.take (lowN r.2.1 l) := by
    rw [List.take_append_of_le_length (by omega), List.take_take, Nat.min_self]
  have e2 : (l.take (lowN r.2.1 l) ++ l.drop (nextN l r.2.1)).drop (lowN r.2.1 l) = l.drop (nextN l r.2.1) := by
    rw [List.drop_append, tl, Nat.sub_self, List.drop_zero, List.drop_of_length_le (by omega), List.nil_append]
  rw [e1, e2, List.append_assoc, List.singleton_append]
theorem offL_length (l : List Al) (node : Int) : (offL l node).length = lowN node l + (l.length - nextN l node) := by
  have hp := lowN_le node l
  unfold offL
  rw [List.length_append, List.length_take, List.length_drop]
  omega
theorem offL_lt (l : List Al) (node : Int) {k : Nat} (hk : k < lowN node l) : ((offL l node).getD k aD).1 < node := by
  have := lowN_lt node l k hk
  have hp := lowN_le node l
  unfold offL
  rw [List.getD_eq_getElem?_getD, List.getElem?_append_left (by rw [List.length_take]; omega), List.getElem?_take, if_pos hk, ← List.getD_eq_getElem?_getD]
  exact this
theorem offL_at {l : List Al} (h : Ord l) (node : Int) (hk : lowN node l < (offL l node).length) : ¬ ((offL l node).getD (lowN node l) aD).1 < node := by
  have hp := lowN_le node l
  rw [offL_length] at hk
  have := drop_gt h node (k := nextN l node) (Nat.le_refl _) (by omega)
  unfold offL
  rw [List.getD_eq_getElem?_getD, List.getElem?_append_right (by rw [List.length_take]; omega), List.length_take, Nat.min_eq_left hp, Nat.sub_self, List.getElem?_drop, Nat.add_zero, ← List.getD_eq_getElem?_getD]
  omega
end Go.Proofs.Ytokafhinmakdnaa
