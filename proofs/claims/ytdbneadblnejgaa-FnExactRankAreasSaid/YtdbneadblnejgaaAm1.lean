/- The abstract layer, part 1: abstract values (addresses are tags of blocks), how they are related to the values of a world, abstract heaps, and how a world extends another. No program in sight. -/
import Derived.WalkKit
import Derived.ProofKit
import Derived.Deep.Quiet
import Derived.Lib.LaidTab
import Derived.Lib.ItoaNum
namespace Go.Am
open Go.RowKit
set_option linter.unusedVariables false

/-! ### Lists related element by element -/
def L2 {α β : Type} (R : α → β → Prop) : List α → List β → Prop
  | [], [] => True
  | x :: xs, y :: ys => R x y ∧ L2 R xs ys
  | [], _ :: _ => False
  | _ :: _, [] => False

section
variable {α β : Type} {R R' : α → β → Prop}
theorem L2.length : ∀ {xs : List α} {ys : List β}, L2 R xs ys → xs.length = ys.length
  | [], [], _ => rfl
  | _ :: _, _ :: _, h => by simp [L2.length h.2]
  | [], _ :: _, h => h.elim
  | _ :: _, [], h => h.elim
theorem L2.get : ∀ {xs : List α} {ys : List β} (_ : L2 R xs ys) {i : Nat} {x : α}, xs[i]? = some x → ∃ y, ys[i]? = some y ∧ R x y
  | [], [], _, i, x, hx => by simp at hx
  | a :: _, b :: _, h, 0, x, hx => ⟨b, by simp, by simp at hx; exact hx ▸ h.1⟩
  | _ :: _, _ :: _, h, i + 1, x, hx => by
    obtain ⟨y, hy, hr⟩ := L2.get h.2 (i := i) (x := x) (by simpa using hx)
    exact ⟨y, by simpa using hy, hr⟩
  | [], _ :: _, h, _, _, _ => h.elim
  | _ :: _, [], h, _, _, _ => h.elim
theorem L2.get' : ∀ {xs : List α} {ys : List β} (_ : L2 R xs ys) {i : Nat} {y : β}, ys[i]? = some y → ∃ x, xs[i]? = some x ∧ R x y
  | [], [], _, i, x, hx => by simp at hx
  | a :: _, b :: _, h, 0, x, hx => ⟨a, by simp, by simp at hx; exact hx ▸ h.1⟩
  | _ :: _, _ :: _, h, i + 1, x, hx => by
    obtain ⟨y, hy, hr⟩ := L2.get' h.2 (i := i) (y := x) (by simpa using hx)
    exact ⟨y, by simpa using hy, hr⟩
  | [], _ :: _, h, _, _, _ => h.elim
  | _ :: _, [], h, _, _, _ => h.elim
theorem L2.mono (hR : ∀ x y, R x y → R' x y) : ∀ {xs : List α} {ys : List β}, L2 R xs ys → L2 R' xs ys
  | [], [], _ => trivial
  | _ :: _, _ :: _, h => ⟨hR _ _ h.1, L2.mono hR h.2⟩
  | [], _ :: _, h => h.elim
  | _ :: _, [], h => h.elim
theorem L2.mono_mem : ∀ {xs : List α} {ys : List β}, (∀ x y, x ∈ xs → R x y → R' x y) → L2 R xs ys → L2 R' xs ys
  | [], [], _, _ => trivial
  | x :: xs, _ :: _, hR, h => ⟨hR _ _ (by simp) h.1, L2.mono_mem (fun x y hx => hR x y (by simp [hx])) h.2⟩
  | [], _ :: _, _, h => h.elim
  | _ :: _, [], _, h => h.elim
theorem L2.append : ∀ {xs : List α} {ys : List β} {xs' : List α} {ys' : List β}, L2 R xs ys → L2 R xs' ys' → L2 R (xs ++ xs') (ys ++ ys')
  | [], [], _, _, _, h => h
  | _ :: _, _ :: _, _, _, h, h' => ⟨h.1, L2.append h.2 h'⟩
  | [], _ :: _, _, _, h, _ => h.elim
  | _ :: _, [], _, _, h, _ => h.elim
theorem L2.of_get : ∀ {xs : List α} {ys : List β}, xs.length = ys.length → (∀ (i : Nat) (x : α) (y : β), xs[i]? = some x → ys[i]? = some y → R x y) → L2 R xs ys
  | [], [], _, _ => trivial
  | x :: xs, y :: ys, hl, h => ⟨h 0 x y (by simp) (by simp), L2.of_get (by simpa using hl) fun i a b ha hb => h (i + 1) a b (by simpa using ha) (by simpa using hb)⟩
  | [], _ :: _, hl, _ => by simp at hl
  | _ :: _, [], hl, _ => by simp at hl
theorem L2.take {xs : List α} {ys : List β} (h : L2 R xs ys) (n : Nat) : L2 R (xs.take n) (ys.take n) :=
  L2.of_get (by simp [h.length]) fun i x y hx hy => by
    have hi : i < n := by
      rcases Nat.lt_or_ge i n with hi | hi
      · exact hi
      · rw [List.getElem?_take, if_neg (by omega)] at hx; cases hx
    rw [List.getElem?_take, if_pos hi] at hx hy
    obtain ⟨y', hy', hr⟩ := h.get hx
    rw [hy] at hy'; cases hy'; exact hr
theorem L2.drop {xs : List α} {ys : List β} (h : L2 R xs ys) (n : Nat) : L2 R (xs.drop n) (ys.drop n) :=
  L2.of_get (by simp [h.length]) fun i x y hx hy => by
    rw [List.getElem?_drop] at hx hy
    obtain ⟨y', hy', hr⟩ := h.get hx
    rw [hy] at hy'; cases hy'; exact hr
theorem L2.set {xs : List α} {ys : List β} (h : L2 R xs ys) (n : Nat) {x : α} {y : β} (hr : R x y) : L2 R (xs.set n x) (ys.set n y) :=
  L2.of_get (by simp [h.length]) fun i a b ha hb => by
    rw [List.getElem?_set] at ha hb
    by_cases hi : n = i
    · subst hi
      rw [if_pos rfl] at ha hb
      split at ha
      · split at hb
        · cases ha; cases hb; exact hr
        · cases hb
      · cases ha
    · rw [if_neg hi] at ha hb
      obtain ⟨y', hy', hr'⟩ := h.get ha
      rw [hb] at hy'; cases hy'; exact hr'
theorem L2.replicate {x : α} {y : β} (hr : R x y) : ∀ n, L2 R (List.replicate n x) (List.replicate n y)
  | 0 => trivial
  | n + 1 => ⟨hr, L2.replicate hr n⟩
theorem L2.nil_left {ys : List β} (h : L2 R [] ys) : ys = [] := by cases ys with | nil => rfl | cons _ _ => exact h.elim
theorem L2.map_left {γ : Type} {f : γ → α} : ∀ {xs : List γ} {ys : List β}, L2 (fun x y => R (f x) y) xs ys → L2 R (xs.map f) ys
  | [], [], _ => trivial
  | _ :: _, _ :: _, h => ⟨h.1, L2.map_left h.2⟩
  | [], _ :: _, h => h.elim
  | _ :: _, [], h => h.elim
end
theorem L2.eq {α : Type} : ∀ {xs ys : List α}, L2 (fun x y => y = x) xs ys → ys = xs
  | [], [], _ => rfl
  | _ :: _, _ :: _, h => by rw [h.1, L2.eq h.2]
  | [], _ :: _, h => h.elim
  | _ :: _, [], h => h.elim
theorem L2.refl {α : Type} {R : α → α → Prop} : ∀ {xs : List α}, (∀ x ∈ xs, R x x) → L2 R xs xs
  | [], _ => trivial
  | x :: xs, h => ⟨h x (by simp), L2.refl fun y hy => h y (by simp [hy])⟩

/-! ### Where a tag's block lies -/
inductive Loc where
  | virt
  | real (A : Addr) (cap sz : Nat)
abbrev Rho := Nat → Option Loc

theorem add_add (a : Addr) (i j : Nat) : (a.add i).add j = a.add (i + j) := by
  unfold Addr.add
  by_cases hi : i = 0 <;> by_cases hj : j = 0 <;> simp [hi, hj, Nat.add_assoc]
theorem add_block (a : Addr) (n : Nat) : (a.add n).block = a.block := by unfold Addr.add; split <;> rfl
theorem add_spot (a : Addr) (n : Nat) (h : a.spot = none) : (a.add n).spot = none := by unfold Addr.add; split <;> first | exact h | rfl
theorem add_off (a : Addr) (n : Nat) : (a.add n).off = a.off + n := by unfold Addr.add; split <;> simp_all

theorem addr_add (b j : Nat) : (⟨b, 0, none⟩ : Addr).add j = ⟨b, j, none⟩ := by rw [Addr.add_lit, Nat.zero_add]
theorem addr_eq {A : Addr} (h1 : A.off = 0) (h2 : A.spot = none) : A = ⟨A.block, 0, none⟩ := by
  obtain ⟨b, o, s⟩ := A
  simp only at h1 h2
  subst h1; subst h2; rfl
theorem addr_eq' {A : Addr} (h2 : A.spot = none) : A = ⟨A.block, A.off, none⟩ := by
  obtain ⟨b, o, s⟩ := A
  simp only at h2
  subst h2; rfl
theorem addr_addo (b o j : Nat) : (⟨b, o, none⟩ : Addr).add j = ⟨b, o + j, none⟩ := by rw [Addr.add_lit]
theorem alloc_old (w : World) (o : Obj) (k : Nat) (h : k < w.heap.size) : (w.alloc o).heap[k]? = w.heap[k]? := Below.heap_alloc w o k h
theorem alloc_new (w : World) (o : Obj) : (w.alloc o).heap[w.heap.size]? = some o := by show (w.heap.push o)[w.heap.size]? = some o; simp

/-! ### Values -/
/-- an address of the abstract heap and a concrete one -/
def PR (ρ : Rho) (v cv : Value) : Prop := ∃ ad A cap sz, v = .pointer (some ad) ∧ ad.spot = none ∧ ρ ad.block = some (.real A cap sz) ∧ cv = .pointer (some (A.add ad.off))
/-- a slice whose elements begin at an abstract address -/
def SlR (ρ : Rho) (ad : Addr) (n : Nat) (cv : Value) : Prop := ad.spot = none ∧ ∃ L A' c', ρ ad.block = some L ∧ cv = .slice A' n c' ∧ n ≤ c' ∧ c' ≤ maxLen ∧
  ((c' = 0 ∧ ∀ A cap sz, L = .real A cap sz → ad.off = cap) ∨ ∃ A cap sz, L = .real A cap sz ∧ A' = some (A.add ad.off) ∧ ad.off + c' * sz = cap)
/-- one cell's value -/
def CR (ρ : Rho) : Value → Value → Prop
  | .pointer (some ad), cv => PR ρ (.pointer (some ad)) cv
  | .slice (some ad) n _, cv => SlR ρ ad n cv
  | .func fn first cap, cv => ∃ cap', cv = .func fn first cap' ∧ first = #[] ∧ L2 (PR ρ) cap.toList cap'.toList
  | .agg _, _ => False
  | .tuple _, _ => False
  | v, cv => cv = v
def SV1 (ρ : Rho) : Value → Value → Prop
  | .agg cs, cv => ∃ cs', cv = .agg cs' ∧ L2 (CR ρ) cs.toList cs'.toList
  | v, cv => CR ρ v cv
def SV (ρ : Rho) : Value → Value → Prop
  | .tuple vs, cv => ∃ vs', cv = .tuple vs' ∧ L2 (SV1 ρ) vs.toList vs'.toList
  | v, cv => SV1 ρ v cv

/-- no address in it, one cell -/
def flat : Value → Bool
  | .bool _ => true
  | .int _ _ => true
  | .string _ => true
  | .pointer none => true
  | .slice none _ _ => true
  | .nilFunc => true
  | _ => false
theorem CR_flat {ρ : Rho} {v cv : Value} (h : flat v = true) : CR ρ v cv ↔ cv = v := by
  cases v with
  | pointer a => cases a <;> simp_all [flat, CR]
  | slice a n c => cases a <;> simp_all [flat, CR]
  | _ => simp_all [flat, CR]
theorem SV_flat {ρ : Rho} {v cv : Value} (h : flat v = true) : SV ρ v cv ↔ cv = v := by
  cases v with
  | pointer a => exact CR_flat (v := .pointer a) h
  | slice a n c => exact CR_flat (v := .slice a n c) h
  | _ => simp_all [flat, SV, SV1, CR]

section
variable {ρ ρ' : Rho}
def Rho.le (ρ ρ' : Rho) : Prop := ∀ t L, ρ t = some L → ρ' t = some L
theorem PR.mono (h : ρ.le ρ') {v cv : Value} (hv : PR ρ v cv) : PR ρ' v cv := by
  obtain ⟨ad, A, cap, sz, h1, h2, h3, h4⟩ := hv
  exact ⟨ad, A, cap, sz, h1, h2, h _ _ h3, h4⟩
theorem SlR.mono (h : ρ.le ρ') {ad : Addr} {n : Nat} {cv : Value} (hv : SlR ρ ad n cv) : SlR ρ' ad n cv := by
  obtain ⟨h1, L, A', c', h3, h4⟩ := hv
  exact ⟨h1, L, A', c', h _ _ h3, h4⟩
theorem CR.mono (h : ρ.le ρ') {v cv : Value} (hv : CR ρ v cv) : CR ρ' v cv := by
  cases v with
  | pointer a => cases a with
    | none => exact hv
    | some ad => exact PR.mono h hv
  | slice a n c => cases a with
    | none => exact hv
    | some ad => exact SlR.mono h hv
  | func fn first cap =>
    obtain ⟨cap', h1, h2, h3⟩ := hv
    exact ⟨cap', h1, h2, h3.mono fun _ _ => PR.mono h⟩
  | _ => exact hv
theorem SV1.mono (h : ρ.le ρ') {v cv : Value} (hv : SV1 ρ v cv) : SV1 ρ' v cv := by
  cases v with
  | agg cs => obtain ⟨cs', h1, h2⟩ := hv; exact ⟨cs', h1, h2.mono fun _ _ => CR.mono h⟩
  | _ => simp only [SV1] at hv ⊢; exact CR.mono h hv
theorem SV.mono (h : ρ.le ρ') {v cv : Value} (hv : SV ρ v cv) : SV ρ' v cv := by
  cases v with
  | tuple cs => obtain ⟨cs', h1, h2⟩ := hv; exact ⟨cs', h1, h2.mono fun _ _ => SV1.mono h⟩
  | _ => simp only [SV] at hv ⊢; exact SV1.mono h hv
theorem SV.of1 {v cv : Value} (hv : SV1 ρ v cv) : SV ρ v cv := by
  cases v with
  | tuple cs => exact hv.elim
  | _ => simp only [SV]; exact hv
theorem SV1.ofC {v cv : Value} (hv : CR ρ v cv) : SV1 ρ v cv := by
  cases v with
  | agg cs => exact hv.elim
  | _ => simp only [SV1]; exact hv
theorem SV.ofC {v cv : Value} (hv : CR ρ v cv) : SV ρ v cv := SV.of1 (SV1.ofC hv)
theorem CR.oneCell {v cv : Value} (h : CR ρ v cv) : cv.cells = #[cv] ∧ v.cells = #[v] := by
  cases v with
  | pointer a => cases a with
    | none => cases h; exact ⟨rfl, rfl⟩
    | some ad => obtain ⟨_, _, _, _, _, _, _, rfl⟩ := h; exact ⟨rfl, rfl⟩
  | slice a n c => cases a with
    | none => cases h; exact ⟨rfl, rfl⟩
    | some ad => obtain ⟨_, _, _, _, _, rfl, _⟩ := h; exact ⟨rfl, rfl⟩
  | func fn first cap => obtain ⟨_, rfl, _⟩ := h; exact ⟨rfl, rfl⟩
  | agg cs => exact h.elim
  | tuple cs => exact h.elim
  | _ => cases h; exact ⟨rfl, rfl⟩
theorem SV1.cells {v cv : Value} (h : SV1 ρ v cv) : L2 (CR ρ) v.cells.toList cv.cells.toList := by
  cases v with
  | agg cs => obtain ⟨cs', rfl, h2⟩ := h; exact h2
  | tuple cs => exact h.elim
  | _ => simp only [SV1] at h; rw [(CR.oneCell h).1, (CR.oneCell h).2]; exact ⟨h, trivial⟩
end

/-! ### Abstract heaps -/
structure Blk where
  xs : List Value
  own : Bool
  e : TypeId
  sz : Nat
abbrev Heap := List (Option Blk)
def Heap.get (H : Heap) (t : Nat) : Option Blk := (H[t]?).join

theorem Heap.get_lt {H : Heap} {t : Nat} {b : Blk} (h : H.get t = some b) : t < H.length := by
  unfold Heap.get at h
  rcases Nat.lt_or_ge t H.length with h' | h'
  · exact h'
  · rw [List.getElem?_eq_none h'] at h; cases h
theorem Heap.get_append_left {H L : Heap} {t : Nat} (h : t < H.length) : Heap.get (H ++ L) t = Heap.get H t := by
  unfold Heap.get; rw [List.getElem?_append_left h]
theorem Heap.get_append_right {H L : Heap} {j : Nat} : Heap.get (H ++ L) (H.length + j) = Heap.get L j := by
  unfold Heap.get; rw [List.getElem?_append_right (by omega)]; simp
theorem Heap.get_append_zero {H L : Heap} : Heap.get (H ++ L) H.length = Heap.get L 0 := Heap.get_append_right (j := 0)
theorem Heap.get_new (H : Heap) (b : Option Blk) : Heap.get (H ++ [b]) H.length = b := by
  rw [Heap.get_append_zero]; simp [Heap.get]
theorem Heap.get_of {H L : Heap} {t : Nat} {b : Blk} (h : H.get t = some b) : Heap.get (H ++ L) t = some b := by
  rw [Heap.get_append_left (Heap.get_lt h)]; exact h

theorem Heap.set_self {H : Heap} {t : Nat} {b : Blk} (hb : H.get t = some b) : H.set t (some b) = H := by
  apply List.ext_getElem?
  intro i
  rw [List.getElem?_set]
  split
  · rename_i h
    subst h
    split
    · unfold Heap.get at hb
      cases hq : H[t]? with
      | none => rw [hq] at hb; cases hb
      | some x => rw [hq] at hb; cases x with
        | none => cases hb
        | some x => cases hb; rfl
    · rename_i h; exact absurd (Heap.get_lt hb) h
  · rfl

def BlkR (ρ : Rho) (b : Blk) (w : World) : Loc → Prop
  | .virt => b.xs = []
  | .real A cap sz => A.spot = none ∧ sz = b.sz ∧ b.xs.length ≤ cap ∧ (∀ j v, b.xs[j]? = some v → ∃ cv, w.cell? (A.add j) = some cv ∧ CR ρ v cv) ∧
    (b.own = true → ∃ cur, w.heap[A.block]? = some (.cells cur b.e (0, 0)) ∧ cur.size = A.off + cap)

structure HR (ρ : Rho) (H : Heap) (w : World) : Prop where
  dom : ∀ t, ρ t = none ↔ H.length ≤ t
  blk : ∀ t b L, H.get t = some b → ρ t = some L → BlkR ρ b w L
  far : ∀ t t' b b' A cap sz A' cap' sz', t ≠ t' → H.get t = some b → H.get t' = some b' → b.own = true → (b'.own = true ∨ b'.xs ≠ []) →
    ρ t = some (.real A cap sz) → ρ t' = some (.real A' cap' sz') → A.block ≠ A'.block

theorem HR.some_of {ρ : Rho} {H : Heap} {w : World} (h : HR ρ H w) {t : Nat} (ht : t < H.length) : ∃ L, ρ t = some L := by
  cases hr : ρ t with
  | none => have := (h.dom t).1 hr; omega
  | some L => exact ⟨L, rfl⟩
theorem HR.lt_of {ρ : Rho} {H : Heap} {w : World} (h : HR ρ H w) {t : Nat} {L : Loc} (hr : ρ t = some L) : t < H.length := by
  rcases Nat.lt_or_ge t H.length with h' | h'
  · exact h'
  · rw [(h.dom t).2 h'] at hr; cases hr

/-- the block k is one of those that the abstract heap owns -/
def OwnedBy (ρ : Rho) (H : Heap) (k : Nat) : Prop := ∃ t b A cap sz, H.get t = some b ∧ b.own = true ∧ ρ t = some (.real A cap sz) ∧ A.block = k

structure Ext (ρ0 : Rho) (H0 : Heap) (w0 : World) (ρ : Rho) (H : Heap) (w : World) : Prop where
  os : w.os = w0.os
  tape : w.tape = w0.tape
  output : w.output = w0.output
  size : w0.heap.size ≤ w.heap.size
  len : H0.length ≤ H.length
  rho : ∀ t, t < H0.length → ρ t = ρ0 t
  old : ∀ k, k < w0.heap.size → ¬ OwnedBy ρ0 H0 k → w.heap[k]? = w0.heap[k]?
  fresh : ∀ t b A cap sz, H.get t = some b → b.own = true → ρ t = some (.real A cap sz) → w0.heap.size ≤ A.block ∨ OwnedBy ρ0 H0 A.block

theorem Ext.refl (ρ : Rho) (H : Heap) (w : World) : Ext ρ H w ρ H w :=
  ⟨rfl, rfl, rfl, Nat.le_refl _, Nat.le_refl _, fun _ _ => rfl, fun _ _ _ => rfl, fun t b A cap sz h1 h2 h3 => .inr ⟨t, b, A, cap, sz, h1, h2, h3, rfl⟩⟩
theorem Ext.trans {ρ0 ρ1 ρ2 : Rho} {H0 H1 H2 : Heap} {w0 w1 w2 : World} (h : Ext ρ0 H0 w0 ρ1 H1 w1) (k : Ext ρ1 H1 w1 ρ2 H2 w2) : Ext ρ0 H0 w0 ρ2 H2 w2 where
  os := k.os.trans h.os
  tape := k.tape.trans h.tape
  output := k.output.trans h.output
  size := Nat.le_trans h.size k.size
  len := Nat.le_trans h.len k.len
  rho := fun t ht => (k.rho t (Nat.lt_of_lt_of_le ht h.len)).trans (h.rho t ht)
  old := fun i hi hno => by
    refine (k.old i (Nat.lt_of_lt_of_le hi h.size) ?_).trans (h.old i hi hno)
    rintro ⟨t, b, A, cap, sz, h1, h2, h3, rfl⟩
    rcases h.fresh t b A cap sz h1 h2 h3 with h4 | h4
    · omega
    · exact hno h4
  fresh := fun t b A cap sz h1 h2 h3 => by
    rcases k.fresh t b A cap sz h1 h2 h3 with h4 | ⟨t', b', A', cap', sz', g1, g2, g3, g4⟩
    · exact .inl (Nat.le_trans h.size h4)
    · rcases h.fresh t' b' A' cap' sz' g1 g2 g3 with h5 | h5
      · exact .inl (g4 ▸ h5)
      · exact .inr (g4 ▸ h5)
theorem Ext.le {ρ0 ρ : Rho} {H0 H : Heap} {w0 w : World} (h : Ext ρ0 H0 w0 ρ H w) (h0 : HR ρ0 H0 w0) : ρ0.le ρ := fun t L ht => by
  rw [h.rho t (h0.lt_of ht)]; exact ht

/-! ### Frames -/
abbrev Fr := List (Nat × Value)
def Fr.get : Fr → Nat → Option Value
  | [], _ => none
  | (k, v) :: r, n => if n = k then some v else Fr.get r n
def Fr.put (fr : Fr) (dst : Option Tmp) (v : Value) : Fr := match dst with | some d => (d, v) :: fr | none => fr
def Fr.dstOk (N : Nat) (dst : Option Tmp) : Bool := match dst with | some d => decide (d < N) | none => true
structure FrR (ρ : Rho) (fr : Fr) (N : Nat) (a : Act) : Prop where
  defers : a.defers = []
  size : a.tmps.size = N
  slot : ∀ t v, fr.get t = some v → SV ρ v (a.tmps.getD t undef)
theorem FrR.mono {ρ ρ' : Rho} {fr : Fr} {N : Nat} {a : Act} (h : FrR ρ fr N a) (hl : ρ.le ρ') : FrR ρ' fr N a :=
  ⟨h.defers, h.size, fun t v hv => (h.slot t v hv).mono hl⟩
theorem FrR.put {ρ : Rho} {fr : Fr} {N : Nat} {a : Act} (h : FrR ρ fr N a) {dst : Option Tmp} (hd : Fr.dstOk N dst = true) {v cv : Value} (hv : SV ρ v cv) : FrR ρ (fr.put dst v) N (a.put dst cv) := by
  cases dst with
  | none => exact h
  | some d =>
    have hd' : d < N := by simpa [Fr.dstOk] using hd
    refine ⟨h.defers, by simp [Act.put, h.size], fun t u hu => ?_⟩
    by_cases ht : t = d
    · subst ht
      simp [Fr.put, Fr.get] at hu
      subst hu
      simp [Act.put, h.size, hd', hv]
    · have : fr.get t = some u := by simpa [Fr.put, Fr.get, ht] using hu
      have := h.slot t u this
      have hne : d ≠ t := fun e => ht e.symm
      simpa [Act.put, Array.getElem?_setIfInBounds_ne hne] using this
/-- a slot is given a value that nobody looks at any more -/
theorem FrR.put_undef {ρ : Rho} {fr : Fr} {N : Nat} {a : Act} (h : FrR ρ fr N a) {dst : Option Tmp} (hd : Fr.dstOk N dst = true) : FrR ρ (fr.put dst undef) N (a.put dst undef) :=
  h.put hd ⟨#[], rfl, trivial⟩

def aEv (fr : Fr) : Operand → Option Value
  | .tmp t => fr.get t
  | .const v => if flat v then some v else none
  | .func f => some (.func (.func f) #[] #[])
  | .global _ => none
theorem aEv_sound {ρ : Rho} {fr : Fr} {N : Nat} {a : Act} (h : FrR ρ fr N a) {x : Operand} {v : Value} (hx : aEv fr x = some v) : SV ρ v (a.eval x) := by
  cases x with
  | tmp t => exact h.slot t v hx
  | const u =>
    simp only [aEv] at hx
    split at hx
    · rename_i hf; cases hx; exact (SV_flat hf).2 rfl
    · cases hx
  | func f => simp only [aEv, Option.some.injEq] at hx; subst hx; exact ⟨#[], rfl, rfl, trivial⟩
  | global g => cases hx

end Go.Am
