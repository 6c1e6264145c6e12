/- The abstract layer, part 11: a list that a block holds, from its start. -/
import Derived.Test.YtdbneadblnejgaaAm10
namespace Go.Am
open Go.RowKit
set_option linter.unusedVariables false

/-- block t begins with the cells of l -/
def Sl {α : Type} (f : α → List Value) (H : Heap) (t : Nat) (l : List α) : Prop := ∃ b r, H.get t = some b ∧ b.xs = l.flatMap f ++ r
section
variable {α : Type} {f : α → List Value} {H L : Heap} {t s : Nat} {l : List α}
theorem Sl.lt (h : Sl f H t l) : t < H.length := by obtain ⟨b, r, hb, _⟩ := h; exact Heap.get_lt hb
theorem Sl.app (h : Sl f H t l) : Sl f (H ++ L) t l := by
  have := h.lt
  obtain ⟨b, r, hb, hx⟩ := h
  exact ⟨b, r, by rw [Heap.get_append_left this]; exact hb, hx⟩
theorem Sl.ro (h : Sl f H t l) : Sl f (roH H) t l := by
  obtain ⟨b, r, hb, hx⟩ := h
  exact ⟨_, r, roH_of hb, hx⟩
theorem Sl.take (h : Sl f H t l) (k : Nat) : Sl f H t (l.take k) := by
  obtain ⟨b, r, hb, hx⟩ := h
  refine ⟨b, (l.drop k).flatMap f ++ r, hb, ?_⟩
  rw [hx, ← List.append_assoc, ← List.flatMap_append, List.take_append_drop]
theorem Sl.of {xs : List Value} {o : Bool} {e z : Nat} (h : xs = l.flatMap f) : Sl f (H ++ some ⟨xs, o, e, z⟩ :: L) H.length l :=
  ⟨⟨xs, o, e, z⟩, [], by rw [Heap.get_len, Heap.get_cons, if_pos rfl], by simpa using h⟩
theorem Sl.of1 {xs : List Value} {o : Bool} {e z : Nat} {b : Option Blk} (h : xs = l.flatMap f) : Sl f (H ++ b :: some ⟨xs, o, e, z⟩ :: L) (H.length + 1) l :=
  ⟨⟨xs, o, e, z⟩, [], by rw [Heap.get_len_add, Heap.get_cons, if_neg (by omega), Heap.get_cons, if_pos (by omega)], by simpa using h⟩
theorem Sl.nth (j : Nat) {xs : List Value} {o : Bool} {e z : Nat} (hg : Heap.get L j = some ⟨xs, o, e, z⟩) (h : xs = l.flatMap f) : Sl f (H ++ L) (H.length + j) l :=
  ⟨⟨xs, o, e, z⟩, [], by rw [Heap.get_len_add]; exact hg, by simpa using h⟩
theorem Sl.cells (h : Sl f H t l) (hs : ∀ x, (f x).length = s) (d : α) (k : Nat) (hk : k < l.length) : aCells H ⟨t, k * s, none⟩ s = some (f (l.getD k d)) := by
  obtain ⟨b, r, hb, hx⟩ := h
  have h1 : k * s + s ≤ (l.flatMap f).length := by
    rw [flatMap_length f s hs]
    have := Nat.mul_le_mul_right s (show k + 1 ≤ l.length by omega)
    rw [Nat.add_mul] at this; omega
  unfold aCells
  rw [if_pos rfl]
  simp only [hb, hx]
  rw [if_pos (by simp only [List.length_append]; omega), List.drop_append_of_le_length (by omega), List.take_append_of_le_length (by rw [List.length_drop]; omega), flatMap_cells f s hs d l k hk]
theorem Sl.cell (h : Sl f H t l) (hs : ∀ x, (f x).length = s) (d : α) (k j : Nat) (hk : k < l.length) (hj : j < s) : aCells H ⟨t, k * s + j, none⟩ 1 = some ((f (l.getD k d)).drop j |>.take 1) := by
  have hc := h.cells hs d k hk
  obtain ⟨b, r, hb, hx⟩ := h
  unfold aCells at hc ⊢
  rw [if_pos rfl] at hc ⊢
  simp only [hb] at hc ⊢
  split at hc
  · rename_i h1
    rw [if_pos (by omega)]
    have := Option.some.inj hc
    rw [← this]
    congr 1
    rw [List.drop_take, List.drop_drop, List.take_take]
    congr 1
    omega
  · cases hc
/-- one-cell elements -/
theorem Sl.one {g : α → Value} (h : Sl (fun x => [g x]) H t l) (d : α) (k : Nat) (hk : k < l.length) : aCells H ⟨t, k, none⟩ 1 = some [g (l.getD k d)] := by
  have := h.cells (s := 1) (fun _ => rfl) d k hk
  rwa [Nat.mul_one] at this
/-! ### A made slice that is filled place by place -/
/-- the first k elements of l, behind them zeros -/
def fillS (f : α → List Value) (zs : List Value) (l : List α) (k : Nat) : List Value := (l.take k).flatMap f ++ (List.replicate (l.length - k) zs).flatten
theorem fillS_zero {zs : List Value} : fillS f zs l 0 = (List.replicate l.length zs).flatten := by simp [fillS]
theorem fillS_all {zs : List Value} : fillS f zs l l.length = l.flatMap f := by simp [fillS]
theorem flatten_rep_length (zs : List Value) (n : Nat) : (List.replicate n zs).flatten.length = n * zs.length := by simp
theorem fillS_length {zs : List Value} (hs : ∀ x, (f x).length = s) (hz : zs.length = s) {k : Nat} (hk : k ≤ l.length) : (fillS f zs l k).length = l.length * s := by
  unfold fillS
  rw [List.length_append, flatMap_length f s hs, flatten_rep_length, hz, List.length_take, Nat.min_eq_left hk, ← Nat.add_mul]
  congr 1; omega
theorem fillS_set {zs : List Value} (hs : ∀ x, (f x).length = s) (hz : zs.length = s) (d : α) {k : Nat} (hk : k < l.length) :
    (fillS f zs l k).take (k * s) ++ (f (l.getD k d) ++ (fillS f zs l k).drop (k * s + s)) = fillS f zs l (k + 1) := by
  have hl : ((l.take k).flatMap f).length = k * s := by rw [flatMap_length f s hs, List.length_take, Nat.min_eq_left (by omega)]
  have h1 : (fillS f zs l k).take (k * s) = (l.take k).flatMap f := by unfold fillS; rw [← hl, List.take_left]
  have h2 : (fillS f zs l k).drop (k * s + s) = (List.replicate (l.length - (k + 1)) zs).flatten := by
    unfold fillS
    rw [List.drop_append, hl, Nat.add_sub_cancel_left, List.drop_of_length_le (by omega), List.nil_append, show l.length - k = (l.length - (k + 1)) + 1 by omega, List.replicate_succ, List.flatten_cons, ← hz, List.drop_left]
  rw [h1, h2]
  unfold fillS
  rw [List.take_succ_eq_append_getElem hk, List.flatMap_append, List.append_assoc]
  simp [List.getD, hk]
theorem fillS_flat {zs : List Value} {k : Nat} (hf : ∀ x, (f x).all flat = true) (hz : zs.all flat = true) : (fillS f zs l k).all flat = true := by
  rw [List.all_eq_true] at hz ⊢
  intro x hx
  unfold fillS at hx
  rcases List.mem_append.1 hx with h | h
  · obtain ⟨y, _, h⟩ := List.mem_flatMap.1 h
    exact List.all_eq_true.1 (hf y) x h
  · obtain ⟨m, h1, h2⟩ := List.mem_flatten.1 h
    rw [List.eq_of_mem_replicate h1] at h2
    exact hz x h2
theorem flatMap_flat (hf : ∀ x, (f x).all flat = true) : (l.flatMap f).all flat = true := by
  rw [List.all_eq_true]
  intro x hx
  obtain ⟨y, _, h⟩ := List.mem_flatMap.1 hx
  exact List.all_eq_true.1 (hf y) x h
end
end Go.Am
