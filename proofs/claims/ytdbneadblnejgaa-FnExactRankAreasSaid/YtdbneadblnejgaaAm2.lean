/- The abstract layer, part 2: forgetting and renaming (Weak), contracts of functions (AFun), what a piece of code does to an abstract state (AWp), and its rules. -/
import Derived.Test.YtdbneadblnejgaaAm1
import Derived.Deep.LoopGhost
namespace Go.Am
open Go.RowKit
set_option linter.unusedVariables false

/-! ### Renaming -/
abbrev Sig := Nat → Option Nat
def sub (ρ : Rho) (σ : Sig) (n : Nat) : Rho := fun t => if t < n then some ((σ t).elim .virt fun s => (ρ s).getD .virt) else none

def WMP (σ : Sig) (n : Nat) : Value → Value → Prop
  | .pointer (some ad), v => ad.block < n ∧ ∃ s, σ ad.block = some s ∧ v = .pointer (some ⟨s, ad.off, ad.spot⟩)
  | _, _ => False
def WM (σ : Sig) (n : Nat) : Value → Value → Prop
  | .pointer (some ad), v => ad.block < n ∧ ∃ s, σ ad.block = some s ∧ v = .pointer (some ⟨s, ad.off, ad.spot⟩)
  | .slice (some ad) k _, v => ad.block < n ∧ ((∃ s c0, σ ad.block = some s ∧ v = .slice (some ⟨s, ad.off, ad.spot⟩) k c0) ∨ (σ ad.block = none ∧ ad.spot = none ∧ k = 0 ∧ v = .slice none 0 0))
  | .func fn first cap', v => ∃ cap, v = .func fn first cap ∧ L2 (WMP σ n) cap'.toList cap.toList
  | v', v => v = v'
def WM1 (σ : Sig) (n : Nat) : Value → Value → Prop
  | .agg cs', v => ∃ cs, v = .agg cs ∧ L2 (WM σ n) cs'.toList cs.toList
  | v', v => WM σ n v' v
def WS (σ : Sig) (n : Nat) : Value → Value → Prop
  | .tuple cs', v => ∃ cs, v = .tuple cs ∧ L2 (WM1 σ n) cs'.toList cs.toList
  | v', v => WM1 σ n v' v

section
variable {ρ : Rho} {σ : Sig} {n : Nat}
theorem sub_lt {t : Nat} (h : t < n) : sub ρ σ n t = some ((σ t).elim .virt fun s => (ρ s).getD .virt) := by simp [sub, h]
theorem sub_of {t s : Nat} {L : Loc} (h : t < n) (hs : σ t = some s) (hr : ρ s = some L) : sub ρ σ n t = some L := by simp [sub, h, hs, hr]
theorem WMP.sound {v' v cv : Value} (h : WMP σ n v' v) (hc : PR ρ v cv) : PR (sub ρ σ n) v' cv := by
  cases v' with
  | pointer a => cases a with
    | none => exact h.elim
    | some ad =>
      obtain ⟨h1, s, h2, rfl⟩ := h
      obtain ⟨ad', A, cap, sz, e1, e2, e3, e4⟩ := hc
      injection e1 with e1; injection e1 with e1; subst e1
      exact ⟨ad, A, cap, sz, rfl, e2, sub_of h1 h2 e3, e4⟩
  | _ => exact h.elim
theorem L2.comp {α β γ : Type} {R : α → β → Prop} {S : β → γ → Prop} {T : α → γ → Prop} (h : ∀ a b c, R a b → S b c → T a c) :
    ∀ {xs : List α} {ys : List β} {zs : List γ}, L2 R xs ys → L2 S ys zs → L2 T xs zs
  | [], [], [], _, _ => trivial
  | _ :: _, _ :: _, _ :: _, h1, h2 => ⟨h _ _ _ h1.1 h2.1, L2.comp h h1.2 h2.2⟩
  | [], _ :: _, _, h1, _ => h1.elim
  | _ :: _, [], _, h1, _ => h1.elim
  | [], [], _ :: _, _, h2 => h2.elim
  | _ :: _, _ :: _, [], _, h2 => h2.elim
theorem WM.sound {v' v cv : Value} (h : WM σ n v' v) (hc : CR ρ v cv) : CR (sub ρ σ n) v' cv := by
  cases v' with
  | pointer a => cases a with
    | none => simp only [WM] at h; subst h; exact hc
    | some ad =>
      obtain ⟨h1, s, h2, rfl⟩ := h
      exact WMP.sound (v' := .pointer (some ad)) ⟨h1, s, h2, rfl⟩ hc
  | slice a k c => cases a with
    | none => simp only [WM] at h; subst h; exact hc
    | some ad =>
      obtain ⟨h1, h2⟩ := h
      rcases h2 with ⟨s, c0, h2, rfl⟩ | ⟨h0, h2, rfl, rfl⟩
      · obtain ⟨e1, L, A', c', e2, e3, e4, e5, e6⟩ := hc
        exact ⟨e1, L, A', c', sub_of h1 h2 e2, e3, e4, e5, e6⟩
      · simp only [CR] at hc
        exact ⟨h2, _, none, 0, sub_lt h1, hc, Nat.le_refl _, Nat.zero_le _, .inl ⟨rfl, fun A cap sz h => by rw [h0] at h; cases h⟩⟩
  | func fn first cap =>
    obtain ⟨cap', rfl, h2⟩ := h
    obtain ⟨cap'', e1, e2, e3⟩ := hc
    exact ⟨cap'', e1, e2, L2.comp (R := WMP σ n) (S := PR ρ) (T := PR (sub ρ σ n)) (fun _ _ _ a b => WMP.sound a b) h2 e3⟩
  | agg cs => simp only [WM] at h; subst h; exact hc.elim
  | tuple cs => simp only [WM] at h; subst h; exact hc.elim
  | _ => simp only [WM] at h; subst h; exact hc
theorem WM1.sound {v' v cv : Value} (h : WM1 σ n v' v) (hc : SV1 ρ v cv) : SV1 (sub ρ σ n) v' cv := by
  cases v' with
  | agg cs =>
    obtain ⟨cs0, rfl, h2⟩ := h
    obtain ⟨cs', e1, e2⟩ := hc
    exact ⟨cs', e1, L2.comp (R := WM σ n) (S := CR ρ) (T := CR (sub ρ σ n)) (fun _ _ _ a b => WM.sound a b) h2 e2⟩
  | tuple cs => simp only [WM1, WM] at h; subst h; exact hc.elim
  | pointer a =>
    have hv : ∀ cs, v ≠ .agg cs := by
      intro cs e; subst e
      cases a <;> simp [WM1, WM] at h
    have : CR ρ v cv := by cases v <;> first | exact hc | exact absurd rfl (hv _)
    exact WM.sound h this
  | slice a k c =>
    have hv : ∀ cs, v ≠ .agg cs := by
      intro cs e; subst e
      cases a <;> simp [WM1, WM] at h
    have : CR ρ v cv := by cases v <;> first | exact hc | exact absurd rfl (hv _)
    exact WM.sound h this
  | func fn first cap =>
    have hv : ∀ cs, v ≠ .agg cs := by
      intro cs e; subst e
      simp [WM1, WM] at h
    have : CR ρ v cv := by cases v <;> first | exact hc | exact absurd rfl (hv _)
    simp only [WM1] at h
    exact WM.sound h this
  | _ => simp only [WM1, WM] at h; subst h; exact hc
theorem WS.sound {v' v cv : Value} (h : WS σ n v' v) (hc : SV ρ v cv) : SV (sub ρ σ n) v' cv := by
  by_cases ht : ∃ cs, v' = .tuple cs
  · obtain ⟨cs, rfl⟩ := ht
    obtain ⟨cs0, rfl, h2⟩ := h
    obtain ⟨cs', e1, e2⟩ := hc
    exact ⟨cs', e1, L2.comp (R := WM1 σ n) (S := SV1 ρ) (T := SV1 (sub ρ σ n)) (fun _ _ _ a b => WM1.sound a b) h2 e2⟩
  · have h1 : WM1 σ n v' v := by cases v' <;> first | exact h | exact absurd ⟨_, rfl⟩ ht
    have hv : ∀ cs, v ≠ .tuple cs := by
      intro cs e; subst e
      cases v' with
      | tuple cs' => exact ht ⟨_, rfl⟩
      | pointer a => cases a <;> simp [WM1, WM] at h1
      | slice a k c => cases a <;> simp [WM1, WM] at h1
      | _ => simp [WM1, WM] at h1
    have : SV1 ρ v cv := by cases v <;> first | exact hc | exact absurd rfl (hv _)
    exact SV.of1 (WM1.sound h1 this)
end

/-- all tags in it are below m -/
def wfP (m : Nat) : Value → Prop
  | .pointer (some ad) => ad.block < m
  | _ => True
def wf1 (m : Nat) : Value → Prop
  | .pointer (some ad) => ad.block < m
  | .slice (some ad) _ _ => ad.block < m
  | .func _ _ cap => ∀ v ∈ cap.toList, wfP m v
  | _ => True
theorem L2.mem {α β : Type} {R : α → β → Prop} : ∀ {xs : List α} {ys : List β}, L2 R xs ys → ∀ x ∈ xs, ∃ y, R x y
  | [], _, _, x, hx => by cases hx
  | a :: _, b :: _, h, x, hx => by
    rcases List.mem_cons.1 hx with rfl | hx
    · exact ⟨b, h.1⟩
    · exact L2.mem h.2 x hx
  | _ :: _, [], h, _, _ => h.elim
section
variable {ρ ρ' : Rho} {m : Nat}
theorem CR.wf {v cv : Value} (h : CR ρ v cv) (hm : ∀ t L, ρ t = some L → t < m) : wf1 m v := by
  cases v with
  | pointer a => cases a with
    | none => trivial
    | some ad =>
      obtain ⟨_, _, _, _, e, _, e3, _⟩ := h
      injection e with e; injection e with e; subst e
      exact hm _ _ e3
  | slice a k c => cases a with
    | none => trivial
    | some ad => obtain ⟨_, L, _, _, e, _⟩ := h; exact hm _ _ e
  | func fn first cap =>
    obtain ⟨cap', _, _, h3⟩ := h
    intro v hv
    obtain ⟨y, _, _, _, _, e, _, e3, _⟩ := h3.mem v hv
    subst e
    exact hm _ _ e3
  | _ => trivial
theorem CR.agree {v cv : Value} (h : CR ρ v cv) (hw : wf1 m v) (ha : ∀ t, t < m → ρ' t = ρ t) : CR ρ' v cv := by
  cases v with
  | pointer a => cases a with
    | none => exact h
    | some ad =>
      obtain ⟨ad', A, cap, sz, e, e2, e3, e4⟩ := h
      injection e with e; injection e with e; subst e
      exact ⟨_, A, cap, sz, rfl, e2, (ha _ hw).trans e3, e4⟩
  | slice a k c => cases a with
    | none => exact h
    | some ad => obtain ⟨e1, L, A', c', e2, e3⟩ := h; exact ⟨e1, L, A', c', (ha _ hw).trans e2, e3⟩
  | func fn first cap =>
    obtain ⟨cap', h1, h2, h3⟩ := h
    refine ⟨cap', h1, h2, h3.mono_mem ?_⟩
    rintro x y hx ⟨ad, A, cap, sz, e, e2, e3, e4⟩
    subst e
    exact ⟨ad, A, cap, sz, rfl, e2, (ha _ (hw _ hx)).trans e3, e4⟩
  | _ => exact h
end

/-- The abstract heap H' says no more than H says, its tags being read as σ tells; m: the blocks below m are those at the function's entry. -/
structure Weak (H0 : Heap) (σ : Sig) (H' H : Heap) : Prop where
  len : H0.length ≤ H'.length
  fix_ : ∀ t, t < H0.length → σ t = some t
  blk : ∀ t b', H'.get t = some b' → (t < H0.length ∧ H.get t = some b' ∧ H0.get t = some b') ∨ (σ t = none ∧ b'.xs = []) ∨
    ∃ s b k, σ t = some s ∧ H.get s = some b ∧ b'.e = b.e ∧ b'.sz = b.sz ∧ (b'.own = true → b.own = true) ∧ L2 (WM σ H'.length) b'.xs (b.xs.take k)
  inj : ∀ t t' s b b', t ≠ t' → σ t = some s → σ t' = some s → H'.get t = some b → H'.get t' = some b' → b.own = true → b'.own = false ∧ b'.xs = []

theorem Weak.sound {ρ0 ρ : Rho} {H0 H H' : Heap} {w0 w : World} {σ : Sig} (hw : Weak H0 σ H' H) (h0 : HR ρ0 H0 w0) (he : Ext ρ0 H0 w0 ρ H w) (hh : HR ρ H w) :
    HR (sub ρ σ H'.length) H' w ∧ Ext ρ0 H0 w0 (sub ρ σ H'.length) H' w := by
  have hag : ∀ t, t < H0.length → sub ρ σ H'.length t = ρ t := by
    intro t ht
    obtain ⟨L, hL⟩ := hh.some_of (Nat.lt_of_lt_of_le ht he.len)
    rw [sub_of (Nat.lt_of_lt_of_le ht hw.len) (hw.fix_ t ht) hL, hL]
  -- where a block of H' that is not virtual comes from
  have src : ∀ t b' A cap sz, H'.get t = some b' → sub ρ σ H'.length t = some (.real A cap sz) →
      ∃ s b, σ t = some s ∧ H.get s = some b ∧ ρ s = some (.real A cap sz) ∧ (b'.own = true → b.own = true) ∧ (b'.xs ≠ [] → b.xs ≠ []) := by
    intro t b' A cap sz hb hs
    have hlt := Heap.get_lt hb
    rcases hw.blk t b' hb with ⟨h1, h2, h3⟩ | ⟨h1, h2⟩ | ⟨s, b, k, h1, h2, h3, h4, h5, h6⟩
    · exact ⟨t, b', hw.fix_ t h1, h2, (hag t h1).symm.trans hs, id, id⟩
    · rw [sub_lt hlt, h1] at hs; cases hs
    · obtain ⟨L, hL⟩ := hh.some_of (Heap.get_lt h2)
      rw [sub_of hlt h1 hL] at hs
      refine ⟨s, b, h1, h2, hL.trans hs, h5, fun hne hnil => ?_⟩
      rw [hnil] at h6
      have := h6.length
      simp at this
      exact hne this
  refine ⟨⟨fun t => ?_, ?_, ?_⟩, ?_⟩
  · constructor
    · intro h
      rcases Nat.lt_or_ge t H'.length with h' | h'
      · rw [sub_lt h'] at h; cases h
      · exact h'
    · intro h; simp [sub, Nat.not_lt.2 h]
  · intro t b' L hb hL
    have hlt := Heap.get_lt hb
    rcases hw.blk t b' hb with ⟨h1, h2, h3⟩ | ⟨h1, h2⟩ | ⟨s, b, k, h1, h2, h3, h4, h5, h6⟩
    · rw [hag t h1] at hL
      have hb1 := hh.blk t b' L h2 hL
      have hb0 := h0.blk t b' L h3 ((he.rho t h1).symm.trans hL)
      cases L with
      | virt => exact hb1
      | real A cap sz =>
        obtain ⟨a1, a2, a3, a4, a5⟩ := hb1
        refine ⟨a1, a2, a3, fun j v hv => ?_, a5⟩
        obtain ⟨cv, c1, c2⟩ := a4 j v hv
        obtain ⟨cv0, c3, c4⟩ := hb0.2.2.2.1 j v hv
        exact ⟨cv, c1, c2.agree (c4.wf (fun t L h => h0.lt_of h)) hag⟩
    · rw [sub_lt hlt, h1] at hL
      cases hL
      exact h2
    · obtain ⟨Ls, hLs⟩ := hh.some_of (Heap.get_lt h2)
      rw [sub_of hlt h1 hLs] at hL
      cases hL
      have hb1 := hh.blk s b L h2 hLs
      cases L with
      | virt =>
        have hb1' : b.xs = [] := hb1
        rw [hb1'] at h6
        have := h6.length
        simp at this
        exact this
      | real A cap sz =>
        obtain ⟨a1, a2, a3, a4, a5⟩ := hb1
        refine ⟨a1, a2.trans h4.symm, ?_, fun j v' hv' => ?_, fun ho => ?_⟩
        · have := h6.length
          simp only [List.length_take] at this
          omega
        · obtain ⟨v, hv, hm⟩ := h6.get hv'
          have hv2 : b.xs[j]? = some v := by
            rw [List.getElem?_take] at hv
            split at hv
            · exact hv
            · cases hv
          obtain ⟨cv, c1, c2⟩ := a4 j v hv2
          exact ⟨cv, c1, hm.sound c2⟩
        · rw [h3]; exact a5 (h5 ho)
  · intro t t' b b' A cap sz A' cap' sz' hne hb hb' ho hd hA hA'
    obtain ⟨s, bs, s1, s2, s3, s4, s5⟩ := src t b A cap sz hb hA
    obtain ⟨s', bs', s1', s2', s3', s4', s5'⟩ := src t' b' A' cap' sz' hb' hA'
    by_cases hss : s = s'
    · subst hss
      obtain ⟨i1, i2⟩ := hw.inj t t' s b b' hne s1 s1' hb hb' ho
      rcases hd with hd | hd
      · rw [i1] at hd; cases hd
      · exact absurd i2 hd
    · exact hh.far s s' bs bs' A cap sz A' cap' sz' hss s2 s2' (s4 ho) (hd.imp s4' s5') s3 s3'
  · refine ⟨he.os, he.tape, he.output, he.size, hw.len, fun t ht => (hag t ht).trans (he.rho t ht), he.old, ?_⟩
    intro t b A cap sz hb ho hA
    obtain ⟨s, bs, s1, s2, s3, s4, s5⟩ := src t b A cap sz hb hA
    exact he.fresh s bs A cap sz s2 (s4 ho) s3

def FrW (σ : Sig) (n : Nat) : Fr → Fr → Prop
  | [], _ => True
  | (t, v') :: r, fr => (∃ v, fr.get t = some v ∧ WS σ n v' v) ∧ FrW σ n r fr
theorem FrW.get {σ : Sig} {n : Nat} : ∀ {fr' fr : Fr}, FrW σ n fr' fr → ∀ t v', fr'.get t = some v' → ∃ v, fr.get t = some v ∧ WS σ n v' v
  | [], _, _, t, v', h => by cases h
  | (k, u) :: r, fr, h, t, v', hv => by
    simp only [Fr.get] at hv
    split at hv
    · rename_i e; subst e; cases hv; exact h.1
    · exact FrW.get h.2 t v' hv

/-- The state (fr', H') says no more than (fr, H) says. -/
def WeakS (H0 : Heap) (fr' : Fr) (H' : Heap) (fr : Fr) (H : Heap) : Prop := ∃ σ, Weak H0 σ H' H ∧ FrW σ H'.length fr' fr

theorem WeakS.sound {ρ0 ρ : Rho} {H0 H H' : Heap} {w0 w : World} {fr fr' : Fr} {N : Nat} {a : Act} (hw : WeakS H0 fr' H' fr H) (h0 : HR ρ0 H0 w0) (he : Ext ρ0 H0 w0 ρ H w) (hh : HR ρ H w) (hf : FrR ρ fr N a) :
    ∃ ρ', HR ρ' H' w ∧ Ext ρ0 H0 w0 ρ' H' w ∧ FrR ρ' fr' N a := by
  obtain ⟨σ, h1, h2⟩ := hw
  obtain ⟨h3, h4⟩ := h1.sound h0 he hh
  refine ⟨_, h3, h4, hf.defers, hf.size, fun t v' hv => ?_⟩
  obtain ⟨v, g1, g2⟩ := h2.get t v' hv
  exact g2.sound (hf.slot t v g1)

/-! ### A table of the library's that a package-level variable holds -/
abbrev tabName : String := "internal/strconv.uint64pow10"
/-- the block of the table -/
def GB (P : Program) (k : Nat) : Prop := P.globalNamed tabName = some k
abbrev lenName : String := "internal/bytealg.MaxLen"
/-- the block of a number of the library's -/
def GM (P : Program) (k : Nat) : Prop := P.globalNamed lenName = some k
/-- the table, where the program has it, holds what start-up code lays; the number, where the program has it, is some number -/
structure GL (P : Program) (w : World) : Prop where
  tab : ∀ k, GB P k → Lib.TabIs P w tabName .u64 Lib.pow10Tab
  len : ∀ k, GM P k → ∃ m, w.cell? ⟨k, 0, none⟩ = some (.int .i64 m)
theorem GL.none {P : Program} {w : World} (h : P.globalNamed tabName = Option.none) (h2 : P.globalNamed lenName = Option.none) : GL P w where
  tab k hk := by unfold GB at hk; rw [h] at hk; cases hk
  len k hk := by unfold GM at hk; rw [h2] at hk; cases hk
structure HG (P : Program) (ρ : Rho) (H : Heap) (w : World) : Prop extends HR ρ H w where
  gl : GL P w
  gno : ∀ k, GB P k ∨ GM P k → ¬ OwnedBy ρ H k
theorem tab_of {P : Program} {w : World} {k : Nat} (hk : GB P k) : Lib.TabIs P w tabName .u64 Lib.pow10Tab ↔ ∃ e z, w.heap[k]? = some (.cells (Lib.pow10Tab.map fun z => Value.int .u64 z).toArray e z) := by
  unfold Lib.TabIs World.var?
  rw [show P.globalNamed tabName = some k from hk, Option.bind_some]
  constructor
  · intro h
    split at h
    · rename_i cs e z hg
      cases h
      exact ⟨e, z, hg⟩
    · cases h
  · rintro ⟨e, z, h⟩
    rw [h]
theorem GL.lt {P : Program} {w : World} (h : GL P w) {k : Nat} (hk : GB P k ∨ GM P k) : k < w.heap.size := by
  rcases hk with hk | hk
  · obtain ⟨e, z, h⟩ := (tab_of hk).1 (h.tab k hk)
    exact (Array.getElem?_eq_some_iff.1 h).1
  · obtain ⟨m, hm⟩ := h.len k hk
    unfold World.cell? at hm
    rcases Nat.lt_or_ge k w.heap.size with h' | h'
    · exact h'
    · rw [Array.getElem?_eq_none h'] at hm; cases hm
theorem GL.keep {P : Program} {w w' : World} (h : GL P w) (e : ∀ k, GB P k ∨ GM P k → w'.heap[k]? = w.heap[k]?) : GL P w' where
  tab k hk := by
    have := h.tab k hk
    rw [tab_of hk] at this ⊢
    rw [e k (.inl hk)]; exact this
  len k hk := by
    obtain ⟨m, hm⟩ := h.len k hk
    refine ⟨m, ?_⟩
    rw [← hm]
    unfold World.cell?
    simp only [e k (.inr hk)]
theorem HG.ext {P : Program} {ρ0 ρ : Rho} {H0 H : Heap} {w0 w : World} (h0 : HG P ρ0 H0 w0) (he : Ext ρ0 H0 w0 ρ H w) (hh : HR ρ H w) : HG P ρ H w where
  toHR := hh
  gl := h0.gl.keep fun k hk => he.old k (h0.gl.lt hk) (h0.gno k hk)
  gno := fun k hk ⟨t, b, A, cap, sz, h1, h2, h3, h4⟩ => by
    have hlt := h0.gl.lt hk
    rcases he.fresh t b A cap sz h1 h2 h3 with h | h
    · omega
    · rw [h4] at h; exact h0.gno k hk h

/-! ### Contracts -/
def AFun (P : Program) (f : FuncId) (args : List Value) (H : Heap) (v : Value) (H' : Heap) : Prop :=
  ∀ (ρ : Rho) (w : World) (cargs : Array Value), HG P ρ H w → L2 (SV1 ρ) args cargs.toList →
    Calls P f cargs w fun e w' => ∃ cv ρ', e = .returned cv ∧ SV ρ' v cv ∧ HR ρ' H' w' ∧ Ext ρ H w ρ' H' w'

abbrev APost := Exit → Fr → Heap → Prop
def Post (ρ0 : Rho) (H0 : Heap) (w0 : World) (N : Nat) (Q : APost) : Exit → Act → World → Prop :=
  fun e a w => ∃ fr H ρ, Q e fr H ∧ FrR ρ fr N a ∧ HR ρ H w ∧ Ext ρ0 H0 w0 ρ H w

/-- From every world and frame that (fr, H) describes, the code ends as Q says. H0: the heap at the function's entry; N: how many slots the frame has. -/
def AWp (P : Program) (N : Nat) (H0 : Heap) (c : Code) (Q : APost) (fr : Fr) (H : Heap) : Prop :=
  ∀ ρ0 w0 ρ a w, HG P ρ0 H0 w0 → Ext ρ0 H0 w0 ρ H w → FrR ρ fr N a → HR ρ H w → c.wp P (Post ρ0 H0 w0 N Q) a w

def APost.seq (K : Fr → Heap → Prop) (Q : APost) : APost
  | .normal, fr, H => K fr H
  | e, fr, H => Q e fr H
def APost.blk (id : Nat) (Q : APost) : APost
  | .exit id', fr, H => if id' = id then Q .normal fr H else Q (.exit id') fr H
  | e, fr, H => Q e fr H

section
variable {P : Program} {N : Nat} {H0 : Heap} {Q : APost} {fr : Fr} {H : Heap}
theorem AWp.mono {c : Code} {Q' : APost} (h : AWp P N H0 c Q fr H) (hq : ∀ e fr H, Q e fr H → Q' e fr H) : AWp P N H0 c Q' fr H :=
  fun ρ0 w0 ρ a w h0 he hf hh => wp_mono (h ρ0 w0 ρ a w h0 he hf hh) fun e a w ⟨fr', H', ρ', q, r⟩ => ⟨fr', H', ρ', hq _ _ _ q, r⟩
theorem AWp.weak {c : Code} {fr' : Fr} {H' : Heap} (hw : WeakS H0 fr' H' fr H) (h : AWp P N H0 c Q fr' H') : AWp P N H0 c Q fr H := by
  intro ρ0 w0 ρ a w h0 he hf hh
  obtain ⟨ρ', h1, h2, h3⟩ := hw.sound h0.toHR he hh hf
  exact h ρ0 w0 ρ' a w h0 h2 h3 h1
theorem AWp.seq {x y : Code} (h : AWp P N H0 x (Q.seq (AWp P N H0 y Q)) fr H) : AWp P N H0 (.seq x y) Q fr H := by
  intro ρ0 w0 ρ a w h0 he hf hh
  refine wp_seq (wp_mono (h ρ0 w0 ρ a w h0 he hf hh) ?_)
  rintro e a' w' ⟨fr', H', ρ', hq, hf', hh', he'⟩
  cases e with
  | normal => exact hq ρ0 w0 ρ' a' w' h0 he' hf' hh'
  | _ => exact ⟨fr', H', ρ', hq, hf', hh', he'⟩
theorem AWp.cond {x : Operand} {c d : Code} {b : Bool} (hx : aEv fr x = some (.bool b)) (h1 : b = true → AWp P N H0 c Q fr H) (h2 : b = false → AWp P N H0 d Q fr H) : AWp P N H0 (.cond x c d) Q fr H := by
  intro ρ0 w0 ρ a w h0 he hf hh
  have hv := (SV_flat (v := .bool b) rfl).1 (aEv_sound hf hx)
  exact wp_cond_split hv (fun hb => h1 hb ρ0 w0 ρ a w h0 he hf hh) (fun hb => h2 hb ρ0 w0 ρ a w h0 he hf hh)
theorem AWp.block {id : Nat} {c : Code} (h : AWp P N H0 c (Q.blk id) fr H) : AWp P N H0 (.block id c) Q fr H := by
  intro ρ0 w0 ρ a w h0 he hf hh
  refine wp_block (wp_mono (h ρ0 w0 ρ a w h0 he hf hh) ?_)
  rintro e a' w' ⟨fr', H', ρ', hq, r⟩
  cases e with
  | exit id' =>
    simp only [APost.blk] at hq
    simp only [Exit.inBlock]
    split
    · rename_i e; rw [if_pos e] at hq; exact ⟨fr', H', ρ', hq, r⟩
    · rename_i e; rw [if_neg e] at hq; exact ⟨fr', H', ρ', hq, r⟩
  | _ => exact ⟨fr', H', ρ', hq, r⟩
theorem AWp.exit {id : Nat} (h : Q (.exit id) fr H) : AWp P N H0 (.exit id) Q fr H :=
  fun _ _ ρ _ _ _ he hf hh => wp_exit ⟨fr, H, ρ, h, hf, hh, he⟩
theorem AWp.ret (h : Q .ret fr H) : AWp P N H0 .ret Q fr H :=
  fun _ _ ρ _ _ _ he hf hh => wp_ret ⟨fr, H, ρ, h, hf, hh, he⟩
theorem AWp.skip (h : Q .normal fr H) : AWp P N H0 .skip Q fr H :=
  fun _ _ ρ _ _ _ he hf hh => wp_skip ⟨fr, H, ρ, h, hf, hh, he⟩
theorem AWp.label {l : Nat} (h : Q .normal fr H) : AWp P N H0 (.label l) Q fr H :=
  fun _ _ ρ _ _ _ he hf hh => wp_label ⟨fr, H, ρ, h, hf, hh, he⟩

/-- A loop: at its head the state is one of a family; each round lowers the measure. -/
theorem AWp.loop {ι : Type} {c : Code} (I : ι → Prop) (S : ι → Fr × Heap) (μ : ι → Nat) (i₀ : ι) (hI : I i₀) (hw : WeakS H0 (S i₀).1 (S i₀).2 fr H)
    (round : ∀ i, I i → AWp P N H0 c (Q.seq fun fr' H' => ∃ j, I j ∧ μ j < μ i ∧ WeakS H0 (S j).1 (S j).2 fr' H') (S i).1 (S i).2) : AWp P N H0 (.loop c) Q fr H := by
  intro ρ0 w0 ρ a w h0 he hf hh
  refine wp_loop_ghost (fun n a w => ∃ i ρ, μ i = n ∧ I i ∧ FrR ρ (S i).1 N a ∧ HR ρ (S i).2 w ∧ Ext ρ0 H0 w0 ρ (S i).2 w) (μ i₀) ?_ ?_
  · obtain ⟨ρ', h1, h2, h3⟩ := hw.sound h0.toHR he hh hf
    exact ⟨i₀, ρ', rfl, hI, h3, h1, h2⟩
  · rintro n a w ⟨i, ρ, rfl, hi, hf, hh, he⟩
    refine wp_mono (round i hi ρ0 w0 ρ a w h0 he hf hh) ?_
    rintro e a' w' ⟨fr', H', ρ', hq, hf', hh', he'⟩
    cases e with
    | normal =>
      obtain ⟨j, hj, hlt, hw'⟩ := hq
      obtain ⟨ρ'', h1, h2, h3⟩ := hw'.sound h0.toHR he' hh' hf'
      exact ⟨μ j, hlt, j, ρ'', rfl, hj, h3, h1, h2⟩
    | _ => exact ⟨fr', H', ρ', hq, hf', hh', he'⟩
end

/-! ### A function's body -/
def Fr.ofArgs : Nat → List Value → Fr
  | _, [] => []
  | k, v :: vs => (k, v) :: Fr.ofArgs (k + 1) vs
theorem Fr.ofArgs_get : ∀ (vs : List Value) (k t : Nat) (v : Value), (Fr.ofArgs k vs).get t = some v → k ≤ t ∧ vs[t - k]? = some v
  | [], _, _, _, h => by cases h
  | u :: vs, k, t, v, h => by
    simp only [Fr.ofArgs, Fr.get] at h
    split at h
    · rename_i e; subst e; exact ⟨Nat.le_refl _, by simpa using h⟩
    · rename_i hne
      obtain ⟨h1, h2⟩ := Fr.ofArgs_get vs (k + 1) t v h
      refine ⟨by omega, ?_⟩
      rw [show t - k = (t - (k + 1)) + 1 by omega]
      simpa using h2

def aCells (H : Heap) (ad : Addr) (n : Nat) : Option (List Value) :=
  if ad.spot = none then
    match H.get ad.block with
    | some b => if ad.off + n ≤ b.xs.length then some ((b.xs.drop ad.off).take n) else none
    | none => none
  else none
/-- what a variable of type t at an abstract address reads as; c: how many cells it has; agg: a struct or an array -/
def aLoad (H : Heap) (c : Nat) (agg : Bool) : Value → Option Value
  | .pointer (some ad) =>
    match aCells H ad c with
    | some l => if agg then some (.agg l.toArray) else match l with | [v] => some v | _ => none
    | none => none
  | _ => none

def Program.isAggB (P : Program) (t : TypeId) : Bool := match P.underlying t with | some (.struct _) | some (.array _ _) => true | _ => false
def aLoadT (P : Program) (H : Heap) (t : TypeId) (v : Value) : Option Value :=
  match P.info? t, P.underlying t with
  | some i, some d => aLoad H i.size (match d with | .struct _ | .array _ _ => true | _ => false) v
  | _, _ => none

end Go.Am
