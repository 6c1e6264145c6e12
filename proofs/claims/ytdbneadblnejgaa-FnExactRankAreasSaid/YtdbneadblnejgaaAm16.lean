/- The abstract layer, part 16: a loop that keeps all blocks it made (their number is not known beforehand). -/
import Derived.Test.YtdbneadblnejgaaAm15
namespace Go.Am
open Go.RowKit
set_option linter.unusedVariables false

/-- the heap K is H and blocks behind it that hold nothing but what is flat, and addresses of blocks below b0 -/
def KExt (b0 : Nat) (H K : Heap) : Prop := b0 ≤ H.length ∧ ∃ L, K = H ++ L ∧ ∀ j b, Heap.get L j = some b → ∀ σ m, (∀ t, t < b0 → σ t = some t) → b0 ≤ m → L2 (WM σ m) b.xs b.xs
theorem KExt.refl {b0 : Nat} {H : Heap} (h : b0 ≤ H.length) : KExt b0 H H := ⟨h, [], by simp, fun j b h => by rw [Heap.get_nil] at h; cases h⟩
theorem KExt.le {b0 : Nat} {H K : Heap} (h : KExt b0 H K) : H.length ≤ K.length := by obtain ⟨_, L, rfl, _⟩ := h; simp
theorem KExt.snoc {b0 : Nat} {H K : Heap} {b : Blk} (h : KExt b0 H K) (hb : ∀ σ m, (∀ t, t < b0 → σ t = some t) → b0 ≤ m → L2 (WM σ m) b.xs b.xs) : KExt b0 H (K ++ [some b]) := by
  obtain ⟨hb0, L, rfl, hL⟩ := h
  refine ⟨hb0, L ++ [some b], by simp, fun j x hx => ?_⟩
  rcases Heap.get_snoc hx with ⟨_, h'⟩ | ⟨_, h'⟩
  · exact hL j x h'
  · cases h'; exact hb
theorem wm_flat {b : Blk} (hb : b.xs.all flat = true) {σ : Sig} {m : Nat} : L2 (WM σ m) b.xs b.xs := L2.refl fun x hx => WM_flat (List.all_eq_true.1 hb x hx)
theorem KExt.flat {b0 : Nat} {H K : Heap} {xs : List Value} {o : Bool} {e z : Nat} (h : KExt b0 H K) (hb : xs.all Am.flat = true) : KExt b0 H (K ++ [some ⟨xs, o, e, z⟩]) := h.snoc fun _ _ _ _ => wm_flat hb
theorem KExt.get {b0 : Nat} {H K : Heap} (h : KExt b0 H K) {t : Nat} (ht : t < H.length) : K.get t = H.get t := by
  obtain ⟨hb0, L, rfl, hL⟩ := h
  exact Heap.get_append_left ht
theorem KExt.sl {b0 : Nat} {α : Type} {f : α → List Value} {l : List α} {H K : Heap} (h : KExt b0 H K) {t : Nat} (hS : Sl f H t l) : Sl f K t l := by
  obtain ⟨hb0, L, rfl, hL⟩ := h
  exact hS.app
theorem KExt.rebase {b0 : Nat} {H K H' Hc : Heap} {σ : Sig} (h : KExt b0 H K) (hw : Weak K σ H' Hc) : Weak H σ H' Hc := by
  have hl := h.le
  refine ⟨Nat.le_trans hl hw.len, fun t ht => hw.fix_ t (by omega), fun t b' hb => ?_, hw.inj⟩
  rcases hw.blk t b' hb with ⟨h1, h2, h3⟩ | h2 | h3
  · rcases Nat.lt_or_ge t H.length with ht | ht
    · exact .inl ⟨ht, h2, by rw [← h.get ht]; exact h3⟩
    · refine .inr (.inr ⟨t, b', b'.xs.length, hw.fix_ t h1, h2, rfl, rfl, id, ?_⟩)
      rw [List.take_length]
      obtain ⟨hb0, L, rfl, hL⟩ := h
      obtain ⟨j, rfl⟩ := Nat.exists_eq_add_of_le ht
      rw [Heap.get_append_right] at h3
      exact hL j b' h3 σ _ (fun t ht => hw.fix_ t (by simp; omega)) (by have := hw.len; omega)
  · exact .inr (.inl h2)
  · exact .inr (.inr h3)
theorem KExt.mk {b0 : Nat} {H K L L' : Heap} (h : KExt b0 H K) (js : List (Option Nat)) (hj : jsOk js = true) (hw : wkL (sg K.length js) (K.length + L'.length) L L' js) : Weak H (sg K.length js) (K ++ L') (K ++ L) := h.rebase (weak_mk js hj hw)
theorem KExt.weak {b0 : Nat} {H K : Heap} (h : KExt b0 H K) : Weak H (sg K.length []) K K := by
  have := h.mk (L := []) (L' := []) [] rfl trivial
  rwa [List.append_nil] at this
theorem weakS_kmk {b0 : Nat} {H K L L' : Heap} {fr fr' : Fr} (h : KExt b0 H K) (js : List (Option Nat)) (hj : jsOk js = true) (hw : wkL (sg K.length js) (K.length + L'.length) L L' js) (hf : FrW (sg K.length js) (K.length + L'.length) fr' fr) : WeakS H fr' (K ++ L') fr (K ++ L) :=
  ⟨_, h.mk js hj hw, by simpa using hf⟩
theorem fin_kmk {b0 : Nat} {H K L L' : Heap} {v vf : Value} (h : KExt b0 H K) (js : List (Option Nat)) (hj : jsOk js = true) (hw : wkL (sg K.length js) (K.length + L'.length) L L' js) (hf : WS (sg K.length js) (K.length + L'.length) v vf) : WeakV H v (K ++ L') vf (K ++ L) :=
  ⟨_, h.mk js hj hw, by simpa using hf⟩
theorem KExt.trans {b0 : Nat} {H K G : Heap} (h : KExt b0 H K) (k : KExt b0 K G) : KExt b0 H G := by
  obtain ⟨hb0, L, rfl, hL⟩ := h
  obtain ⟨hb1, M, rfl, hM⟩ := k
  refine ⟨hb0, L ++ M, by simp, fun j b hb => ?_⟩
  rcases Nat.lt_or_ge j L.length with h | h
  · rw [Heap.get_append_left h] at hb
    exact hL j b hb
  · obtain ⟨i, rfl⟩ := Nat.exists_eq_add_of_le h
    rw [Heap.get_append_right] at hb
    exact hM i b hb
/-- all that was made is dropped, but some blocks -/
theorem KExt.drop {b0 : Nat} {H K : Heap} (h : KExt b0 H K) : ∃ L, K = H ++ L := by obtain ⟨_, L, e, _⟩ := h; exact ⟨L, e⟩
theorem weakS_keep {b0 : Nat} {H K : Heap} {fr fr' : Fr} (h : KExt b0 H K) (hf : FrW (sg K.length []) K.length fr' fr) : WeakS H fr' K fr K := ⟨_, h.weak, hf⟩
theorem fin_keep {b0 : Nat} {H K : Heap} {v vf : Value} (h : KExt b0 H K) (hf : WS (sg K.length []) K.length v vf) : WeakV H v K vf K := ⟨_, h.weak, hf⟩
/-- the last two blocks are kept -/
theorem weak_cut2 {b0 : Nat} {H K : Heap} {x1 x2 : List Value} {o1 o2 : Bool} {e1 z1 e2 z2 : Nat} (h : KExt b0 H K) (h1 : x1.all Am.flat = true) (h2 : x2.all Am.flat = true) :
    ∃ σ, Weak H σ (H ++ [some ⟨x1, o1, e1, z1⟩, some ⟨x2, o2, e2, z2⟩]) (K ++ [some ⟨x1, o1, e1, z1⟩, some ⟨x2, o2, e2, z2⟩]) ∧ (∀ t, t < H.length → σ t = some t) ∧ σ H.length = some K.length ∧ σ (H.length + 1) = some (K.length + 1) := by
  obtain ⟨L, rfl⟩ := h.drop
  have g0 : Heap.get (L ++ [some ⟨x1, o1, e1, z1⟩, some ⟨x2, o2, e2, z2⟩]) L.length = some ⟨x1, o1, e1, z1⟩ := by rw [Heap.get_append_zero]; rfl
  have g1 : Heap.get (L ++ [some ⟨x1, o1, e1, z1⟩, some ⟨x2, o2, e2, z2⟩]) (L.length + 1) = some ⟨x2, o2, e2, z2⟩ := by rw [Heap.get_append_right]; rfl
  refine ⟨sg H.length [some L.length, some (L.length + 1)], ?_, fun t ht => by simp only [sg, ht, if_true], by simp [sg], by rw [sg, if_neg (by omega), Nat.add_sub_cancel_left]; simp [Nat.add_assoc]⟩
  rw [List.append_assoc]
  refine weak_mk _ (by simp [jsOk]) ?_
  simp only [wkL, g0, g1]
  exact ⟨⟨by first | rfl | exact trivial, by first | rfl | exact trivial, id, .inl ⟨rfl, h1⟩⟩, ⟨by first | rfl | exact trivial, by first | rfl | exact trivial, id, .inl ⟨rfl, h2⟩⟩, trivial⟩
theorem fin_two {b0 : Nat} {H K : Heap} {x1 x2 : List Value} {o1 o2 : Bool} {e1 z1 e2 z2 n1 n2 c1 c2 d1 d2 : Nat} (h : KExt b0 H K) (h1 : x1.all Am.flat = true) (h2 : x2.all Am.flat = true) :
    WeakV H (.tuple #[.slice (some ⟨H.length, 0, none⟩) n1 c1, .slice (some ⟨H.length + 1, 0, none⟩) n2 c2]) (H ++ [some ⟨x1, o1, e1, z1⟩, some ⟨x2, o2, e2, z2⟩])
      (.tuple #[.slice (some ⟨K.length, 0, none⟩) n1 d1, .slice (some ⟨K.length + 1, 0, none⟩) n2 d2]) (K ++ [some ⟨x1, o1, e1, z1⟩, some ⟨x2, o2, e2, z2⟩]) := by
  obtain ⟨σ, hw, _, s0, s1⟩ := weak_cut2 (o1 := o1) (o2 := o2) (e1 := e1) (e2 := e2) (z1 := z1) (z2 := z2) h h1 h2
  exact ⟨σ, hw, _, rfl, ⟨by simp, .inl ⟨_, _, s0, rfl⟩⟩, ⟨by simp, .inl ⟨_, _, s1, rfl⟩⟩, trivial⟩
theorem fin_drop {H L : Heap} {v vf : Value} (hf : WS (sg H.length []) H.length v vf) : WeakV H v H vf (H ++ L) := by
  have := fin_list (H := H) (L := L) (L' := []) [] rfl trivial (by simpa using hf)
  rwa [List.append_nil] at this
theorem fin_same {H : Heap} {v vf : Value} (hf : WS (sg H.length []) H.length v vf) : WeakV H v H vf H := by
  have := fin_drop (L := []) hf
  rwa [List.append_nil] at this
section
variable {P : Program} {N : Nat} {H0 H Hf : Heap} {ops : Array Oper} {fr : Fr}
theorem AAny.three {Q : APost} {f' : Nat} {listed : Array Bool} {tok' : Tok (P, N, H0, ops, Q, Hf, f', listed)} (fuel i j k : Nat) (hfu : f' = fuel + 1) (hd : (ops.toList.all fun o => Fr.dstOk N o.dst) = true) (hr : Region.ready .any ops listed = [i, j, k])
    (h1 : vAt P ops i (kAt P N H0 ops Q Hf fuel (listed.setIfInBounds i true)) fr H) (h2 : vAt P ops j (kAt P N H0 ops Q Hf fuel (listed.setIfInBounds j true)) fr H) (h3 : vAt P ops k (kAt P N H0 ops Q Hf fuel (listed.setIfInBounds k true)) fr H) : AAny P N H0 ops Q Hf f' listed fr H tok' :=
  AAny.all [i, j, k] hfu hd hr (by simp) fun q hq => by
    rcases List.mem_cons.1 hq with rfl | hq
    · exact h1
    · rcases List.mem_cons.1 hq with rfl | hq
      · exact h2
      · obtain rfl : q = k := by simpa using hq
        exact h3
end
end Go.Am
