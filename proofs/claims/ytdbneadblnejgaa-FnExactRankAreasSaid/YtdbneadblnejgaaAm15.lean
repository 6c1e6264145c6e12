/- The abstract layer, part 15: contracts that tell of a value and a heap, but do not name them; blocks of the caller's that hold addresses. -/
import Derived.Test.YtdbneadblnejgaaAm14
import Derived.Test.YtdbneadblnejgaaAm12
import Derived.Test.YtdbneadblnejgaaAm13
namespace Go.Am
open Go.RowKit
set_option linter.unusedVariables false

/-- a value and a heap of which Φ tells, and that say no more than vf in Hf says -/
def EndR (H0 : Heap) (Φ : Value → Heap → Prop) (vf : Value) (Hf : Heap) : Prop := ∃ v H', Φ v H' ∧ WeakV H0 v H' vf Hf
theorem EndR.of {H0 Hf : Heap} {Φ : Value → Heap → Prop} {vf : Value} (v : Value) (H' : Heap) (h : Φ v H') (hw : WeakV H0 v H' vf Hf) : EndR H0 Φ vf Hf := ⟨v, H', h, hw⟩
def FinVR (H0 : Heap) (Φ : Value → Heap → Prop) (Hf : Heap) : Option Value → Prop
  | some vf => EndR H0 Φ vf Hf
  | none => False
def FinR (P : Program) (rs : List ResultVar) (H0 : Heap) (Φ : Value → Heap → Prop) : APost
  | .normal, fr, Hf => FinVR H0 Φ Hf (aRes P rs fr Hf)
  | .ret, fr, Hf => FinVR H0 Φ Hf (aRes P rs fr Hf)
  | _, _, _ => False
section
variable {P : Program} {N : Nat} {H0 H : Heap} {Φ : Value → Heap → Prop} {fr : Fr}
theorem finR_normal {rs : List ResultVar} : FinR P rs H0 Φ .normal fr H = FinVR H0 Φ H (aRes P rs fr H) := rfl
theorem finR_ret {rs : List ResultVar} : FinR P rs H0 Φ .ret fr H = FinVR H0 Φ H (aRes P rs fr H) := rfl
theorem finVR_some {vf : Value} : FinVR H0 Φ H (some vf) = EndR H0 Φ vf H := rfl
attribute [go_sem ↓] finR_normal finR_ret
attribute [go_sem] finVR_some
theorem AFunR.of_body {f : FuncId} {fn : Func} {c : Code} {args : List Value} {H : Heap} (hf : P.funcs[f]? = some fn) (hn : (fn.name == "runtime.NumGoroutine") = false) (hb : fn.body = some c)
    (hok : codeOk fn.ntmps c = true) (hargs : args.length ≤ fn.ntmps) (h : vcCode P fn.ntmps H c (FinR P fn.results.toList H Φ) (Fr.ofArgs 0 args) H) : AFunR P f args H Φ := by
  refine ⟨⟨fn, hf, by rw [hb]; rfl, hn⟩, ?_⟩
  intro ρ w cargs hg hl
  have hh := hg.toHR
  refine calls_of_wp hf hb ?_
  have hlen := hl.length
  simp only [Array.length_toList] at hlen
  have hfr : FrR ρ (Fr.ofArgs 0 args) fn.ntmps { tmps := cargs ++ Array.replicate (fn.ntmps - cargs.size) undef, defers := [] } := by
    refine ⟨rfl, by simp; omega, fun t u hu => ?_⟩
    obtain ⟨_, h2⟩ := Fr.ofArgs_get _ _ _ _ hu
    rw [Nat.sub_zero] at h2
    obtain ⟨cv, g1, g2⟩ := hl.get h2
    have ht : t < cargs.size := by
      have := (List.getElem?_eq_some_iff.1 g1).1
      simpa using this
    have g1' : cargs[t]? = some cv := by simpa using g1
    have : (cargs ++ Array.replicate (fn.ntmps - cargs.size) undef).getD t undef = cv := by
      rw [Array.getD_eq_getD_getElem?, Array.getElem?_append_left ht, g1']; rfl
    rw [this]
    exact SV.of1 g2
  refine wp_mono (vcCode_sound c _ _ _ hok h ρ w ρ _ w hg (Ext.refl _ _ _) hfr hh) ?_
  rintro e a' w' ⟨fr', Hf, ρ', hq, hf', hh', he'⟩
  have fin : FinVR H Φ Hf (aRes P fn.results.toList fr' Hf) → a'.defers = [] ∧ ∃ cv, (results fn a'.tmps).run P w' = .ok cv w' ∧ ∃ v H' cv' ρ'', Φ v H' ∧ Ending.returned cv = .returned cv' ∧ SV ρ'' v cv' ∧ HR ρ'' H' w' ∧ Ext ρ H w ρ'' H' w' := by
    intro hfin
    cases hr : aRes P fn.results.toList fr' Hf with
    | none => rw [hr] at hfin; exact hfin.elim
    | some vf =>
      rw [hr] at hfin
      obtain ⟨v, H', hΦ, σ, k1, k2⟩ := hfin
      obtain ⟨cv, g1, g2⟩ := aRes_sound hf' hh' hr
      obtain ⟨m1, m2⟩ := k1.sound hh he' hh'
      exact ⟨hf'.defers, cv, g2, v, H', cv, _, hΦ, rfl, k2.sound g1, m1, m2⟩
  cases e with
  | normal => exact fin hq
  | ret => exact fin hq
  | _ => exact hq.elim
end
theorem AFunR.calls {P : Program} {f : FuncId} {vs : List Value} {H : Heap} {Φ : Value → Heap → Prop} (h : AFunR P f vs H Φ) {ρ : Rho} {W : World} {args : Array Value} (hG : GL P W) (hh : HR ρ H W) (hno : noOwn H) (hl : L2 (SV1 ρ) vs args.toList) :
    Calls P f args W fun e W' => ∃ v H' cv ρ', Φ v H' ∧ e = .returned cv ∧ SV ρ' v cv ∧ HR ρ' H' W' ∧ Below W.heap.size W W' := by
  refine Calls.mono (h.func ρ W args ⟨hh, hG, fun k _ ⟨t, b, A, cap, sz, g1, g2, _⟩ => by rw [hno t b g1] at g2; cases g2⟩ hl) ?_
  rintro e W' ⟨v, H', cv, ρ', hΦ, rfl, h1, h2, h3⟩
  refine ⟨v, H', cv, ρ', hΦ, rfl, h1, h2, h3.os, h3.tape, h3.output, h3.size, fun k hk => h3.old k hk ?_⟩
  rintro ⟨t, b, A, cap, sz, g1, g2, _⟩
  rw [hno t b g1] at g2; cases g2
/-! ### A block of the caller's that may hold addresses of the caller's blocks -/
section
variable {H : Heap} {t : Nat} {b : Blk}
theorem weak_setA (ht : t < H.length) (hf : L2 (WM (sg H.length []) H.length) b.xs b.xs) : Weak H (sg H.length []) (H.set t (some b)) (H.set t (some b)) := by
  refine ⟨by simp, fun s hs => by simp [sg, hs], fun s b' hb => ?_, fun s s' u b1 b2 hne h1 h2 h3 h4 h5 => ?_⟩
  · have hs : s < H.length := by have := Heap.get_lt hb; simpa using this
    by_cases h : s = t
    · subst h
      rw [Heap.get_set_self ht] at hb
      cases hb
      refine .inr (.inr ⟨s, b, b.xs.length, by simp [sg, hs], Heap.get_set_self ht, rfl, rfl, id, ?_⟩)
      rw [List.take_length]
      simpa using hf
    · refine .inl ⟨hs, hb, ?_⟩
      unfold Heap.get at hb ⊢
      rwa [List.getElem?_set_ne (fun e => h e.symm)] at hb
  · have e1 : s < H.length := by
      unfold sg at h1
      split at h1
      · assumption
      · simp at h1
    have e2 : s' < H.length := by
      unfold sg at h2
      split at h2
      · assumption
      · simp at h2
    have g1 : u = s := by simp [sg, e1] at h1; exact h1.symm
    have g2 : u = s' := by simp [sg, e2] at h2; exact h2.symm
    exact absurd (g1.symm.trans g2) hne
/-- the heap at the end has what the function made behind; it is dropped -/
theorem weak_setA_drop {L : Heap} (ht : t < H.length) (hf : L2 (WM (sg H.length []) H.length) b.xs b.xs) : Weak H (sg H.length []) (H.set t (some b)) (H.set t (some b) ++ L) := by
  have h := weak_setA ht hf
  refine ⟨h.len, h.fix_, fun s b' hb => ?_, h.inj⟩
  rcases h.blk s b' hb with ⟨h1, h2, h3⟩ | h2 | ⟨s', b0, k, h1, h2, h3⟩
  · exact .inl ⟨h1, Heap.get_of h2, h3⟩
  · exact .inr (.inl h2)
  · exact .inr (.inr ⟨s', b0, k, h1, Heap.get_of h2, h3⟩)
theorem weakS_setA {fr fr' : Fr} {G' G : Heap} (L : Heap) (ht : t < H.length) (hf : L2 (WM (sg H.length []) H.length) b.xs b.xs) (e' : G' = H.set t (some b)) (e : G = H.set t (some b) ++ L) (hw : FrW (sg H.length []) H.length fr' fr) : WeakS H fr' G' fr G := by
  subst e'; subst e
  exact ⟨_, weak_setA_drop ht hf, by simpa using hw⟩
theorem fin_setA {v vf : Value} {G' G : Heap} (L : Heap) (ht : t < H.length) (hf : L2 (WM (sg H.length []) H.length) b.xs b.xs) (e' : G' = H.set t (some b)) (e : G = H.set t (some b) ++ L) (hv : WS (sg H.length []) H.length v vf) : WeakV H v G' vf G := by
  subst e'; subst e
  exact ⟨_, weak_setA_drop ht hf, by simpa using hv⟩
end
/-! ### A caller's block that has changed, and what the function made behind the caller's blocks -/
theorem Heap.get_set_ne {H : Heap} {s t : Nat} {x : Option Blk} (h : s ≠ t) : Heap.get (H.set t x) s = Heap.get H s := by
  unfold Heap.get
  rw [List.getElem?_set_ne (fun e => h e.symm)]
theorem Weak.rebase {H H' Hf : Heap} {σ : Sig} {t : Nat} {b : Blk} (ht : t < H.length) (hw : Weak (H.set t (some b)) σ H' Hf) (hf : L2 (WM σ H'.length) b.xs b.xs) : Weak H σ H' Hf where
  len := by simpa using hw.len
  fix_ := fun s hs => hw.fix_ s (by simpa using hs)
  blk := fun s b' hb => by
    rcases hw.blk s b' hb with ⟨h1, h2, h3⟩ | h | h
    · by_cases e : s = t
      · subst e
        rw [Heap.get_set_self ht] at h3
        cases h3
        exact .inr (.inr ⟨s, b, b.xs.length, hw.fix_ s h1, h2, rfl, rfl, id, by rw [List.take_length]; exact hf⟩)
      · exact .inl ⟨by simpa using h1, h2, by rwa [Heap.get_set_ne e] at h3⟩
    · exact .inr (.inl h)
    · exact .inr (.inr h)
  inj := hw.inj
section
variable {H L L' : Heap} {t : Nat} {b : Blk} {fr fr' : Fr}
theorem weakS_sets (js : List (Option Nat)) (hj : jsOk js = true) (ht : t < H.length) (hf : L2 (WM (sg H.length js) (H.length + L'.length)) b.xs b.xs) (h : wkL (sg H.length js) (H.length + L'.length) L L' js)
    (hw : FrW (sg H.length js) (H.length + L'.length) fr' fr) : WeakS H fr' (H.set t (some b) ++ L') fr (H.set t (some b) ++ L) := by
  have e : (H.set t (some b)).length = H.length := by simp
  have k := weak_mk (H := H.set t (some b)) (L := L) (L' := L') js hj (by rw [e]; exact h)
  rw [e] at k
  exact ⟨_, k.rebase ht (by simpa using hf), by simpa using hw⟩
theorem fin_sets {v vf : Value} (js : List (Option Nat)) (hj : jsOk js = true) (ht : t < H.length) (hf : L2 (WM (sg H.length js) (H.length + L'.length)) b.xs b.xs) (h : wkL (sg H.length js) (H.length + L'.length) L L' js)
    (hv : WS (sg H.length js) (H.length + L'.length) v vf) : WeakV H v (H.set t (some b) ++ L') vf (H.set t (some b) ++ L) := by
  have e : (H.set t (some b)).length = H.length := by simp
  have k := weak_mk (H := H.set t (some b)) (L := L) (L' := L') js hj (by rw [e]; exact h)
  rw [e] at k
  exact ⟨_, k.rebase ht (by simpa using hf), by simpa using hv⟩
end
section
variable {H L : Heap} {t : Nat} {x : Option Blk}
theorem get_set_len : Heap.get (H.set t x ++ L) H.length = Heap.get L 0 := by have := Heap.get_len (H.set t x) L; simpa using this
theorem get_set_len_add {j : Nat} : Heap.get (H.set t x ++ L) (H.length + j) = Heap.get L j := by have := Heap.get_len_add (H.set t x) L j; simpa using this
theorem set_set_len {y : Option Blk} : (H.set t x ++ L).set H.length y = H.set t x ++ L.set 0 y := by have h := Heap.set_len (H.set t x) L y; rwa [List.length_set] at h
theorem set_set_len_add {j : Nat} {y : Option Blk} : (H.set t x ++ L).set (H.length + j) y = H.set t x ++ L.set j y := by have h := Heap.set_len_add (H.set t x) L j y; rwa [List.length_set] at h
theorem aCells_set0 {off n : Nat} : aCells (H.set t x ++ L) ⟨H.length, off, none⟩ n = aC1 (Heap.get L 0) off n := by rw [aCells_eq, get_set_len]
theorem aCells_setj {j off n : Nat} : aCells (H.set t x ++ L) ⟨H.length + j, off, none⟩ n = aC1 (Heap.get L j) off n := by rw [aCells_eq, get_set_len_add]
theorem blkSz_set : blkSz (H.set t x ++ L) H.length = blkSz L 0 := by unfold blkSz; rw [get_set_len]
theorem blkSz_set_add {j : Nat} : blkSz (H.set t x ++ L) (H.length + j) = blkSz L j := by unfold blkSz; rw [get_set_len_add]
theorem aCells_oldS {u off n : Nat} (h : u < H.length) : aCells (H.set t x ++ L) ⟨u, off, none⟩ n = aCells (H.set t x) ⟨u, off, none⟩ n := aCells_old (by simpa using h)
theorem blkSz_oldS {u : Nat} (h : u < H.length) : blkSz (H.set t x ++ L) u = blkSz (H.set t x) u := blkSz_old (by simpa using h)
theorem set_into (ht : t < H.length) {y : Option Blk} : (H.set t x ++ L).set t y = H.set t y ++ L := by
  rw [List.set_append_left _ _ (by simpa using ht), List.set_set]
theorem set_into0 {L : Heap} (ht : t < H.length) {y : Option Blk} : (H ++ L).set t y = H.set t y ++ L := List.set_append_left _ _ ht
theorem Sl.nthS {α : Type} {f : α → List Value} {l : List α} (j : Nat) {xs : List Value} {o : Bool} {e z : Nat} (hg : Heap.get L j = some ⟨xs, o, e, z⟩) (hx : xs = l.flatMap f) : Sl f (H.set t x ++ L) (H.length + j) l := by
  have := Sl.nth (H := H.set t x) j hg hx
  rwa [List.length_set] at this
theorem Sl.ofS {α : Type} {f : α → List Value} {l : List α} {xs : List Value} {o : Bool} {e z : Nat} (hx : xs = l.flatMap f) : Sl f (H.set t x ++ some ⟨xs, o, e, z⟩ :: L) H.length l := by
  have := Sl.of (H := H.set t x) (L := L) (o := o) (e := e) (z := z) hx
  rwa [List.length_set] at this
attribute [go_sem] get_set_len get_set_len_add set_set_len set_set_len_add aCells_set0 aCells_setj blkSz_set blkSz_set_add aCells_oldS blkSz_oldS List.length_set List.set_set
end
theorem SubH.nil {H : Heap} : SubH [] H := ⟨Nat.zero_le _, fun t b h => by rw [Heap.get_nil] at h; cases h⟩
end Go.Am
