/- The abstract layer, part 14: a block of the caller's that is written into. -/
import Derived.Test.YtdbneadblnejgaaAm11
namespace Go.Am
open Go.RowKit
set_option linter.unusedVariables false

section
variable {H : Heap} {t : Nat} {b : Blk}
theorem Heap.get_set_self (ht : t < H.length) {x : Option Blk} : Heap.get (H.set t x) t = x := by
  unfold Heap.get
  rw [List.getElem?_set_self ht]
  cases x <;> rfl
theorem weak_set (ht : t < H.length) (hf : b.xs.all flat = true) : Weak H (sg H.length []) (H.set t (some b)) (H.set t (some b)) := by
  refine ⟨by simp, fun s hs => by simp [sg, hs], fun s b' hb => ?_, fun s s' u b1 b2 hne h1 h2 h3 h4 h5 => ?_⟩
  · have hs : s < H.length := by have := Heap.get_lt hb; simpa using this
    by_cases h : s = t
    · subst h
      rw [Heap.get_set_self ht] at hb
      cases hb
      refine .inr (.inr ⟨s, b, b.xs.length, by simp [sg, hs], Heap.get_set_self ht, rfl, rfl, id, ?_⟩)
      rw [List.take_length]
      exact L2.refl fun x hx => WM_flat (List.all_eq_true.1 hf x hx)
    · refine .inl ⟨hs, hb, ?_⟩
      unfold Heap.get at hb ⊢
      rwa [List.getElem?_set_ne (fun e => h e.symm)] at hb
  · have e1 : s < H.length := by
      unfold sg at h1
      split at h1
      · assumption
      · simp at h1
    have e2 : s' < H.length := by
      unfold sg at h2
      split at h2
      · assumption
      · simp at h2
    have g1 : u = s := by simp [sg, e1] at h1; exact h1.symm
    have g2 : u = s' := by simp [sg, e2] at h2; exact h2.symm
    exact absurd (g1.symm.trans g2) hne
/-- the state at the head of a loop that writes into block t -/
theorem weakS_set {fr fr' : Fr} {G' G : Heap} (ht : t < H.length) (hf : b.xs.all flat = true) (e' : G' = H.set t (some b)) (e : G = H.set t (some b)) (hw : FrW (sg H.length []) H.length fr' fr) : WeakS H fr' G' fr G := by
  subst e'; subst e
  exact ⟨_, weak_set ht hf, by simpa using hw⟩
theorem fin_set {v vf : Value} {G' G : Heap} (ht : t < H.length) (hf : b.xs.all flat = true) (e' : G' = H.set t (some b)) (e : G = H.set t (some b)) (hv : flat2 v = true) (ev : vf = v) : WeakV H v G' vf G := by
  subst e'; subst e; subst ev
  exact ⟨_, weak_set ht hf, WS_flat2 hv⟩
end
/-! ### a list whose elements are overwritten one after the other -/
/-- the first i elements as m has them, the others as l has them -/
def mixL {α : Type} (l m : List α) (i : Nat) : List α := m.take i ++ l.drop i
section
variable {α : Type} {f : α → List Value} {l m : List α} {i s : Nat}
theorem mixL_zero : mixL l m 0 = l := by simp [mixL]
theorem mixL_all (h : m.length = l.length) : mixL l m l.length = m := by
  unfold mixL
  rw [← h, List.take_length, List.drop_of_length_le (by omega), List.append_nil]
theorem mixL_length (h : m.length = l.length) (hi : i ≤ l.length) : (mixL l m i).length = l.length := by
  unfold mixL
  rw [List.length_append, List.length_take, List.length_drop]; omega
theorem mixL_next (h : m.length = l.length) (d : α) (hi : i < l.length) : (mixL l m i).set i (m.getD i d) = mixL l m (i + 1) := by
  unfold mixL
  have e : (m.take i).length = i := by rw [List.length_take]; omega
  rw [List.set_append_right _ _ (by omega), e, Nat.sub_self]
  rw [List.drop_eq_getElem_cons hi, List.set_cons_zero, List.take_succ_eq_append_getElem (by omega : i < m.length), List.append_assoc]
  simp [List.getD, show i < m.length by omega]
theorem set_flat_eq (hs : ∀ x, (f x).length = s) (x : α) (hi : i < l.length) : (l.set i x).flatMap f = (l.flatMap f).take (i * s) ++ (f x ++ (l.flatMap f).drop (i * s + s)) := by
  have h1 : ((l.take i).flatMap f).length = i * s := by rw [flatMap_length f s hs, List.length_take, Nat.min_eq_left (by omega)]
  have e : l = l.take i ++ (l[i] :: l.drop (i + 1)) := by
    rw [← List.drop_eq_getElem_cons hi, List.take_append_drop]
  have e2 : l.set i x = l.take i ++ (x :: l.drop (i + 1)) := List.set_eq_take_append_cons_drop ▸ (by rw [if_pos hi])
  have e3 : l.flatMap f = (l.take i).flatMap f ++ (f l[i] ++ (l.drop (i + 1)).flatMap f) := by
    conv => lhs; rw [e]
    rw [List.flatMap_append, List.flatMap_cons]
  rw [e2, List.flatMap_append, List.flatMap_cons, e3]
  congr 1
  · rw [← h1, List.take_left]
  · congr 1
    have e4 : ((l.take i).flatMap f).drop (i * s + s) = [] := List.drop_of_length_le (by omega)
    rw [List.drop_append, h1, e4, List.nil_append, Nat.add_sub_cancel_left, ← hs l[i], List.drop_left]
theorem aSetL_eq : ∀ (vs cs : List Value) (o : Nat), o + vs.length ≤ cs.length → aSetL cs o vs = cs.take o ++ (vs ++ cs.drop (o + vs.length))
  | [], cs, o, h => by simp [aSetL]
  | v :: vs, cs, o, h => by
    simp only [List.length_cons] at h
    simp only [aSetL]
    rw [aSetL_eq vs (cs.set o v) (o + 1) (by simp; omega)]
    have e : cs.set o v = cs.take o ++ (v :: cs.drop (o + 1)) := by
      rw [List.set_eq_take_append_cons_drop, if_pos (by omega)]
    have hl : (cs.take o).length = o := by rw [List.length_take]; omega
    rw [e]
    have t1 : (cs.take o ++ (v :: cs.drop (o + 1))).take (o + 1) = cs.take o ++ [v] := by
      rw [List.take_append, hl, List.take_of_length_le (by omega)]
      simp
    have t2 : (cs.take o ++ (v :: cs.drop (o + 1))).drop (o + 1 + vs.length) = cs.drop (o + (v :: vs).length) := by
      have e4 : (cs.take o).drop (o + 1 + vs.length) = [] := List.drop_of_length_le (by omega)
      rw [List.drop_append, hl, e4, List.nil_append]
      rw [show o + 1 + vs.length - o = vs.length + 1 by omega, List.drop_succ_cons, List.drop_drop, List.length_cons]
      congr 1; omega
    rw [t1, t2]
    simp
/-- the element i, written part by part -/
theorem set_parts (hs : ∀ x, (f x).length = s) (x : α) (hi : i < l.length) : aSetL (l.flatMap f) (i * s) (f x) = (l.set i x).flatMap f := by
  rw [set_flat_eq hs x hi, aSetL_eq, hs]
  rw [hs, flatMap_length f s hs]
  have := Nat.mul_le_mul_right s (show i + 1 ≤ l.length by omega)
  rw [Nat.add_mul] at this; omega
theorem mixL_getD (h : m.length = l.length) (d : α) {j : Nat} (hi : i ≤ j) (hj : j < l.length) : (mixL l m i).getD j d = l.getD j d := by
  unfold mixL
  have e : (m.take i).length = i := by rw [List.length_take]; omega
  simp only [List.getD]
  rw [List.getElem?_append_right (by omega), e, List.getElem?_drop, show i + (j - i) = j by omega]
/-- one cell of the element i is written -/
theorem set_cell (hs : ∀ x, (f x).length = s) (x d : α) (hi : i < l.length) {j : Nat} (hj : j < s) {v : Value} (hx : f x = (f (l.getD i d)).set j v) : (l.flatMap f).set (i * s + j) v = (l.set i x).flatMap f := by
  have h1 : ((l.take i).flatMap f).length = i * s := by rw [flatMap_length f s hs, List.length_take, Nat.min_eq_left (by omega)]
  have e : l = l.take i ++ (l.getD i d :: l.drop (i + 1)) := by
    have : l.getD i d = l[i] := by simp [List.getD, hi]
    rw [this, ← List.drop_eq_getElem_cons hi, List.take_append_drop]
  have e2 : l.set i x = l.take i ++ (x :: l.drop (i + 1)) := List.set_eq_take_append_cons_drop ▸ (by rw [if_pos hi])
  have e3 : l.flatMap f = (l.take i).flatMap f ++ (f (l.getD i d) ++ (l.drop (i + 1)).flatMap f) := by
    conv => lhs; rw [e]
    rw [List.flatMap_append, List.flatMap_cons]
  rw [e3, e2, List.flatMap_append, List.flatMap_cons, hx, List.set_append_right _ _ (by omega), h1, Nat.add_sub_cancel_left, List.set_append_left _ _ (by rw [hs]; exact hj)]
/-- a stretch of a list that a block holds -/
theorem Sl.cut {H : Heap} {t : Nat} (h : Sl f H t l) (hs : ∀ x, (f x).length = s) (i m : Nat) (hi : i + m ≤ l.length) : aCells H ⟨t, i * s, none⟩ (m * s) = some (((l.drop i).take m).flatMap f) := by
  obtain ⟨b, r, hb, hx⟩ := h
  have e : l = l.take i ++ ((l.drop i).take m ++ l.drop (i + m)) := by
    have e1 : l.drop (i + m) = (l.drop i).drop m := by rw [List.drop_drop]
    rw [e1, List.take_append_drop, List.take_append_drop]
  have h1 : ((l.take i).flatMap f).length = i * s := by rw [flatMap_length f s hs, List.length_take, Nat.min_eq_left (by omega)]
  have h2 : (((l.drop i).take m).flatMap f).length = m * s := by rw [flatMap_length f s hs, List.length_take, List.length_drop, Nat.min_eq_left (by omega)]
  have e3 : b.xs = (l.take i).flatMap f ++ (((l.drop i).take m).flatMap f ++ ((l.drop (i + m)).flatMap f ++ r)) := by
    rw [hx]
    conv => lhs; rw [e]
    rw [List.flatMap_append, List.flatMap_append, List.append_assoc, List.append_assoc]
  unfold aCells
  rw [if_pos rfl]
  simp only [hb]
  rw [e3, if_pos (by simp only [List.length_append]; omega), ← h1, List.drop_left, ← h2, List.take_left]
theorem Sl.all {H : Heap} {t : Nat} (h : Sl f H t l) (hs : ∀ x, (f x).length = s) : aCells H ⟨t, 0, none⟩ (l.length * s) = some (l.flatMap f) := by
  have := h.cut hs 0 l.length (by omega)
  rw [Nat.zero_mul] at this
  rwa [List.drop_zero, List.take_length] at this
theorem Sl.all1 {H : Heap} {t : Nat} {g : α → Value} (h : Sl (fun x => [g x]) H t l) : aCells H ⟨t, 0, none⟩ l.length = some (l.map g) := by
  have := h.all (s := 1) (fun _ => rfl)
  rw [Nat.mul_one] at this
  rw [this]; congr 1
  clear this h
  induction l with
  | nil => rfl
  | cons x l ih => simp [ih]
end
end Go.Am
