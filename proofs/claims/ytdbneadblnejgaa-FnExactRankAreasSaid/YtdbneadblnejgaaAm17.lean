/- The abstract layer, part 17: a function that writes into blocks of its caller's and keeps what it made. -/
import Derived.Test.YtdbneadblnejgaaAm16
namespace Go.Am
open Go.RowKit
set_option linter.unusedVariables false

theorem wmp_mono {n m : Nat} (h : n ≤ m) {v w : Value} (hv : WMP (sg n []) n v w) : WMP (sg m []) m v w := by
  cases v with
  | pointer a =>
    cases a with
    | none => exact hv.elim
    | some ad =>
      obtain ⟨h1, s, h2, h3⟩ := hv
      have h4 : ad.block < m := by omega
      have : s = ad.block := by simp [sg, h1] at h2; exact h2.symm
      subst this
      exact ⟨h4, _, by simp [sg, h4], h3⟩
  | _ => exact hv.elim
theorem wm_mono {n m : Nat} (h : n ≤ m) {v w : Value} (hv : WM (sg n []) n v w) : WM (sg m []) m v w := by
  cases v with
  | pointer a =>
    cases a with
    | none => exact hv
    | some ad =>
      obtain ⟨h1, s, h2, h3⟩ := hv
      have h4 : ad.block < m := by omega
      have : s = ad.block := by simp [sg, h1] at h2; exact h2.symm
      subst this
      exact ⟨h4, _, by simp [sg, h4], h3⟩
  | slice a k c =>
    cases a with
    | none => exact hv
    | some ad =>
      obtain ⟨h1, hv⟩ := hv
      have h4 : ad.block < m := by omega
      refine ⟨h4, ?_⟩
      rcases hv with ⟨s, c0, h2, h3⟩ | hv
      · have : s = ad.block := by simp [sg, h1] at h2; exact h2.symm
        subst this
        exact .inl ⟨_, c0, by simp [sg, h4], h3⟩
      · exact absurd hv.1 (by simp [sg, h1])
  | func fn first cap =>
    obtain ⟨cap', h1, h2⟩ := hv
    exact ⟨cap', h1, h2.mono fun x y => wmp_mono h⟩
  | _ => exact hv
/-- the heap K says of each block what H says, or holds addresses of K's blocks alone -/
def VK (H K : Heap) : Prop := H.length ≤ K.length ∧ ∀ t b, K.get t = some b → (t < H.length ∧ H.get t = some b) ∨ L2 (WM (sg K.length []) K.length) b.xs b.xs
theorem VK.refl (H : Heap) : VK H H := ⟨Nat.le_refl _, fun t b hb => .inl ⟨Heap.get_lt hb, hb⟩⟩
theorem VK.trans {H K G : Heap} (h : VK H K) (k : VK K G) : VK H G := by
  refine ⟨Nat.le_trans h.1 k.1, fun t b hb => ?_⟩
  rcases k.2 t b hb with ⟨h1, h2⟩ | h1
  · rcases h.2 t b h2 with h3 | h3
    · exact .inl h3
    · exact .inr (h3.mono fun x y => wm_mono k.1)
  · exact .inr h1
theorem VK.weak {H K : Heap} (h : VK H K) : Weak H (sg K.length []) K K := by
  have hle := h.1
  refine ⟨hle, fun t ht => ?_, fun t b' hb => ?_, fun t t' s b b' hne h1 h2 => ?_⟩
  · have : t < K.length := by omega
    simp only [sg, this, if_true]
  · rcases h.2 t b' hb with ⟨h1, h2⟩ | h1
    · exact .inl ⟨h1, hb, h2⟩
    · have hlt := Heap.get_lt hb
      exact .inr (.inr ⟨t, b', b'.xs.length, by simp only [sg, hlt, if_true], hb, rfl, rfl, id, by rw [List.take_length]; exact h1⟩)
  · have e : ∀ t s, sg K.length [] t = some s → s = t := by
      intro t s h
      unfold sg at h
      split at h
      · injection h with h; exact h.symm
      · simp at h
    exact absurd ((e _ _ h1).symm.trans (e _ _ h2)) hne
theorem weakS_vk {H K : Heap} {fr fr' : Fr} (h : VK H K) (hf : FrW (sg K.length []) K.length fr' fr) : WeakS H fr' K fr K := ⟨_, h.weak, hf⟩
theorem fin_vk {H K : Heap} {v vf : Value} (h : VK H K) (hf : WS (sg K.length []) K.length v vf) : WeakV H v K vf K := ⟨_, h.weak, hf⟩
theorem VK.app {K L : Heap} (hL : ∀ j b, Heap.get L j = some b → b.xs.all flat = true) : VK K (K ++ L) := by
  refine ⟨by simp, fun t b hb => ?_⟩
  rcases Nat.lt_or_ge t K.length with h | h
  · rw [Heap.get_append_left h] at hb; exact .inl ⟨h, hb⟩
  · obtain ⟨j, rfl⟩ := Nat.exists_eq_add_of_le h
    rw [Heap.get_append_right] at hb
    exact .inr (L2.refl fun x hx => WM_flat (List.all_eq_true.1 (hL j b hb) x hx))
theorem VK.set {K : Heap} {t : Nat} {b : Blk} (ht : t < K.length) (hb : L2 (WM (sg K.length []) K.length) b.xs b.xs) : VK K (K.set t (some b)) := by
  refine ⟨by simp, fun u b' hb' => ?_⟩
  rw [Heap.get_set] at hb'
  by_cases h : t = u
  · rw [if_pos h, if_pos ht] at hb'
    cases hb'
    exact .inr (by simpa using hb)
  · rw [if_neg h] at hb'
    exact .inl ⟨Heap.get_lt hb', hb'⟩
/-- K keeps H's blocks, but two -/
def Kp (a b : Nat) (H K : Heap) : Prop := H.length ≤ K.length ∧ ∀ t, t < H.length → t ≠ a → t ≠ b → K.get t = H.get t
theorem Kp.refl {a b : Nat} (H : Heap) : Kp a b H H := ⟨Nat.le_refl _, fun _ _ _ _ => rfl⟩
theorem Kp.trans {a b : Nat} {H K G : Heap} (h : Kp a b H K) (k : Kp a b K G) : Kp a b H G :=
  ⟨Nat.le_trans h.1 k.1, fun t ht h1 h2 => (k.2 t (by have := h.1; omega) h1 h2).trans (h.2 t ht h1 h2)⟩
theorem Kp.app {a b : Nat} {H L : Heap} : Kp a b H (H ++ L) := ⟨by simp, fun t ht _ _ => Heap.get_append_left ht⟩
theorem Kp.set1 {a b : Nat} {H : Heap} {x : Option Blk} : Kp a b H (H.set a x) := ⟨by simp, fun t ht h1 _ => by rw [Heap.get_set, if_neg (fun e => h1 e.symm)]⟩
theorem Kp.set2 {a b : Nat} {H : Heap} {x : Option Blk} : Kp a b H (H.set b x) := ⟨by simp, fun t ht _ h2 => by rw [Heap.get_set, if_neg (fun e => h2 e.symm)]⟩
theorem Kp.get {a b : Nat} {H K : Heap} (h : Kp a b H K) {t : Nat} {x : Blk} (hx : H.get t = some x) (h1 : t ≠ a) (h2 : t ≠ b) : K.get t = some x := by rw [h.2 t (Heap.get_lt hx) h1 h2]; exact hx
theorem Kp.cells {a b : Nat} {H K : Heap} (h : Kp a b H K) {t o n : Nat} {xs : List Value} (ht : t < H.length) (h1 : t ≠ a) (h2 : t ≠ b) (hx : aCells H ⟨t, o, none⟩ n = some xs) : aCells K ⟨t, o, none⟩ n = some xs := by
  rw [aCells_eq] at hx ⊢
  rw [h.2 t ht h1 h2]; exact hx
theorem Kp.sl {a b : Nat} {H K : Heap} (h : Kp a b H K) {α : Type} {f : α → List Value} {l : List α} {t : Nat} (hS : Sl f H t l) (h1 : t ≠ a) (h2 : t ≠ b) : Sl f K t l := by
  obtain ⟨x, r, hx, e⟩ := hS
  exact ⟨x, r, h.get hx h1 h2, e⟩
def okB (x : Option Blk) : Prop := match x with | some b => b.xs.all flat = true | none => True
theorem flat3 {x y z : Option Blk} (hx : okB x) (hy : okB y) (hz : okB z) : ∀ j b, Heap.get [x, y, z] j = some b → b.xs.all flat = true := by
  intro j b hb
  rw [Heap.get_cons] at hb
  split at hb
  · rw [hb] at hx; exact hx
  · rw [Heap.get_cons] at hb
    split at hb
    · rw [hb] at hy; exact hy
    · rw [Heap.get_cons] at hb
      split at hb
      · rw [hb] at hz; exact hz
      · rw [Heap.get_nil] at hb; cases hb
/-- K is H and blocks behind it -/
def KQ (H K : Heap) : Prop := H.length ≤ K.length ∧ ∀ t, t < H.length → K.get t = H.get t
theorem KQ.refl (H : Heap) : KQ H H := ⟨Nat.le_refl _, fun _ _ => rfl⟩
theorem KQ.trans {H K G : Heap} (h : KQ H K) (k : KQ K G) : KQ H G := ⟨Nat.le_trans h.1 k.1, fun t ht => (k.2 t (by have := h.1; omega)).trans (h.2 t ht)⟩
theorem KQ.app {H L : Heap} : KQ H (H ++ L) := ⟨by simp, fun t ht => Heap.get_append_left ht⟩
theorem KQ.get {H K : Heap} (h : KQ H K) {t : Nat} {x : Blk} (hx : H.get t = some x) : K.get t = some x := by rw [h.2 t (Heap.get_lt hx)]; exact hx
theorem KQ.cells {H K : Heap} (h : KQ H K) {t o n : Nat} {xs : List Value} (ht : t < H.length) (hx : aCells H ⟨t, o, none⟩ n = some xs) : aCells K ⟨t, o, none⟩ n = some xs := by
  rw [aCells_eq] at hx ⊢
  rw [h.2 t ht]; exact hx
theorem KQ.sl {H K : Heap} (h : KQ H K) {α : Type} {f : α → List Value} {l : List α} {t : Nat} (hS : Sl f H t l) : Sl f K t l := by
  obtain ⟨x, r, hx, e⟩ := hS
  exact ⟨x, r, h.get hx, e⟩
theorem KQ.sub {H K : Heap} (h : KQ H K) : SubH H K := ⟨h.1, fun t b hb => ⟨b, h.get hb, rfl, rfl⟩⟩
theorem VK.snoc {K : Heap} {b : Blk} (hb : L2 (WM (sg (K.length + 1) []) (K.length + 1)) b.xs b.xs) : VK K (K ++ [some b]) := by
  refine ⟨by simp, fun t b' hb' => ?_⟩
  rcases Heap.get_snoc hb' with ⟨h1, h2⟩ | ⟨_, h2⟩
  · exact .inl ⟨h1, h2⟩
  · cases h2
    exact .inr (by simpa using hb)
/-- of all that was made one block is kept -/
theorem fin_pick {H G : Heap} {g : Nat} {xs : List Value} {e z n c d : Nat} {i : Int} (hk : ∀ t, t < H.length → G.get t = H.get t) (hg : G.get g = some ⟨xs, true, e, z⟩) (hgh : H.length ≤ g) (hx : xs.all flat = true) :
    WeakV H (.tuple #[.slice (some ⟨H.length, 0, none⟩) n c, .int .i64 i]) (H ++ [some ⟨xs, true, e, z⟩]) (.tuple #[.slice (some ⟨g, 0, none⟩) n d, .int .i64 i]) G := by
  refine ⟨fun t => if t < H.length then some t else if t = H.length then some g else none, ⟨by simp, fun t ht => if_pos ht, fun t b' hb => ?_, fun t t' s b b' hne h1 h2 => ?_⟩, ?_⟩
  · rcases Heap.get_snoc hb with ⟨h1, h2⟩ | ⟨h1, h2⟩
    · exact .inl ⟨h1, (hk t h1).trans h2, h2⟩
    · cases h2
      subst h1
      refine .inr (.inr ⟨g, _, xs.length, by simp, hg, rfl, rfl, id, ?_⟩)
      rw [List.take_length]
      exact L2.refl fun x hx' => WM_flat (List.all_eq_true.1 hx x hx')
  · split at h1 <;> split at h2
    · cases h1; cases h2; exact absurd rfl hne
    · split at h2
      · cases h1; cases h2; omega
      · cases h2
    · split at h1
      · cases h1; cases h2; omega
      · cases h1
    · split at h1
      · split at h2
        · omega
        · cases h2
      · cases h1
  · exact ⟨_, rfl, ⟨by simp, .inl ⟨g, d, by simp, rfl⟩⟩, rfl, trivial⟩
theorem fin_pick3 {H G : Heap} {g : Nat} {xs : List Value} {e z n c d : Nat} {i : Int} {q : Bool} (hk : ∀ t, t < H.length → G.get t = H.get t) (hg : G.get g = some ⟨xs, true, e, z⟩) (hgh : H.length ≤ g) (hx : xs.all flat = true) :
    WeakV H (.tuple #[.slice (some ⟨H.length, 0, none⟩) n c, .int .i64 i, .bool q]) (H ++ [some ⟨xs, true, e, z⟩]) (.tuple #[.slice (some ⟨g, 0, none⟩) n d, .int .i64 i, .bool q]) G := by
  refine ⟨fun t => if t < H.length then some t else if t = H.length then some g else none, ⟨by simp, fun t ht => if_pos ht, fun t b' hb => ?_, fun t t' s b b' hne h1 h2 => ?_⟩, ?_⟩
  · rcases Heap.get_snoc hb with ⟨h1, h2⟩ | ⟨h1, h2⟩
    · exact .inl ⟨h1, (hk t h1).trans h2, h2⟩
    · cases h2
      subst h1
      refine .inr (.inr ⟨g, _, xs.length, by simp, hg, rfl, rfl, id, ?_⟩)
      rw [List.take_length]
      exact L2.refl fun x hx' => WM_flat (List.all_eq_true.1 hx x hx')
  · split at h1 <;> split at h2
    · cases h1; cases h2; exact absurd rfl hne
    · split at h2
      · cases h1; cases h2; omega
      · cases h2
    · split at h1
      · cases h1; cases h2; omega
      · cases h1
    · split at h1
      · split at h2
        · omega
        · cases h2
      · cases h1
  · exact ⟨_, rfl, ⟨by simp, .inl ⟨g, d, by simp, rfl⟩⟩, rfl, rfl, trivial⟩
/-- all orders end in states that one of some states says less than -/
structure MidR (H0 : Heap) (I : Fr → Heap → Prop) (fr : Fr) (H : Heap) : Prop where
  ex : ∃ fr1 H1, I fr1 H1 ∧ WeakS H0 fr1 H1 fr H
def midRQ (H0 : Heap) (I : Fr → Heap → Prop) : APost
  | .normal, fr, H => MidR H0 I fr H
  | _, _, _ => False
section
variable {P : Program} {N : Nat} {H0 H : Heap} {ops : Array Oper} {fr : Fr} {I : Fr → Heap → Prop}
theorem midRQ_normal : midRQ H0 I .normal fr H = MidR H0 I fr H := rfl
attribute [go_sem ↓] midRQ_normal
theorem ADraw.midR {id : Nat} {Q : APost} {tok' : Tok (ops, Q)} (I : Fr → Heap → Prop) (h : ADraw P N H0 id ops (midRQ H0 I) fr H .mk) (hq : ∀ fr1 H1, I fr1 H1 → Q .normal fr1 H1) : ADraw P N H0 id ops Q fr H tok' := by
  refine ⟨fun ρ0 w0 ρ a w h0 he hf hh => wp_mono (h.wp ρ0 w0 ρ a w h0 he hf hh) ?_⟩
  rintro e a' w' ⟨fr', H', ρ', hq', hf', hh', he'⟩
  cases e with
  | normal =>
    obtain ⟨fr1, H1, hI, hw⟩ := hq'.ex
    obtain ⟨ρ'', h1, h2, h3⟩ := hw.sound h0.toHR he' hh' hf'
    exact ⟨fr1, H1, ρ'', hq fr1 H1 hI, h3, h1, h2⟩
  | _ => exact hq'.elim
end
end Go.Am
