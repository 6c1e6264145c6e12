/- The abstract layer, part 18: a function's code in parts, each with its own end. -/
import Derived.Test.YteojpgmclplggaaAm17
namespace Go.Am
open Go.RowKit
set_option linter.unusedVariables false

theorem AFunC.of_awp {P : Program} {f : FuncId} {fn : Func} {c : Code} {args : List Value} {H H' : Heap} {v : Value} (hf : P.funcs[f]? = some fn) (hn : (fn.name == "runtime.NumGoroutine") = false) (hb : fn.body = some c)
    (hargs : args.length ≤ fn.ntmps) (h : AWp P fn.ntmps H c (Fin P fn.results.toList H v H') (Fr.ofArgs 0 args) H) : AFunC P f args H v H' := by
  refine ⟨⟨fn, hf, by rw [hb]; rfl, hn⟩, ?_⟩
  intro ρ w cargs hg hl
  have hh := hg.toHR
  refine calls_of_wp hf hb ?_
  have hlen := hl.length
  simp only [Array.length_toList] at hlen
  have hfr : FrR ρ (Fr.ofArgs 0 args) fn.ntmps { tmps := cargs ++ Array.replicate (fn.ntmps - cargs.size) undef, defers := [] } := by
    refine ⟨rfl, by simp; omega, fun t u hu => ?_⟩
    obtain ⟨_, h2⟩ := Fr.ofArgs_get _ _ _ _ hu
    rw [Nat.sub_zero] at h2
    obtain ⟨cv, g1, g2⟩ := hl.get h2
    have ht : t < cargs.size := by
      have := (List.getElem?_eq_some_iff.1 g1).1
      simpa using this
    have g1' : cargs[t]? = some cv := by simpa using g1
    have : (cargs ++ Array.replicate (fn.ntmps - cargs.size) undef).getD t undef = cv := by
      rw [Array.getD_eq_getD_getElem?, Array.getElem?_append_left ht, g1']; rfl
    rw [this]
    exact SV.of1 g2
  refine wp_mono (h ρ w ρ _ w hg (Ext.refl _ _ _) hfr hh) ?_
  rintro e a' w' ⟨fr', Hf, ρ', hq, hf', hh', he'⟩
  have fin : FinV H v H' Hf (aRes P fn.results.toList fr' Hf) → a'.defers = [] ∧ ∃ cv, (results fn a'.tmps).run P w' = .ok cv w' ∧ ∃ cv' ρ'', Ending.returned cv = .returned cv' ∧ SV ρ'' v cv' ∧ HR ρ'' H' w' ∧ Ext ρ H w ρ'' H' w' := by
    intro hfin
    cases hr : aRes P fn.results.toList fr' Hf with
    | none => rw [hr] at hfin; exact hfin.elim
    | some vf =>
      rw [hr] at hfin
      obtain ⟨σ, k1, k2⟩ := hfin
      obtain ⟨cv, g1, g2⟩ := aRes_sound hf' hh' hr
      obtain ⟨m1, m2⟩ := k1.sound hh he' hh'
      exact ⟨hf'.defers, cv, g2, cv, _, rfl, k2.sound g1, m1, m2⟩
  cases e with
  | normal => exact fin hq
  | ret => exact fin hq
  | _ => exact hq.elim

/-! ### A slice that begins within its block -/
theorem Fr.get_app {pre : Fr} {s : Nat} {v : Value} {t : Nat} {u : Value} (h : Fr.get (pre ++ [(s, v)]) t = some u) : Fr.get pre t = some u ∨ (Fr.get pre t = none ∧ s = t ∧ u = v) := by
  induction pre with
  | nil =>
    simp only [List.nil_append, Fr.get] at h
    split at h
    · rename_i e
      cases h
      exact .inr ⟨rfl, e.symm, rfl⟩
    · cases h
  | cons p pre ih =>
    obtain ⟨k, x⟩ := p
    simp only [List.cons_append, Fr.get] at h ⊢
    split
    · rename_i e
      rw [if_pos e] at h
      exact .inl h
    · rename_i e
      rw [if_neg e] at h
      exact ih h
theorem Fr.get_app_l {pre : Fr} {s : Nat} {v u : Value} {t : Nat} (h : Fr.get pre t = some u) : Fr.get (pre ++ [(s, v)]) t = some u := by
  induction pre with
  | nil => cases h
  | cons p pre ih =>
    obtain ⟨k, x⟩ := p
    simp only [List.cons_append, Fr.get] at h ⊢
    split
    · rename_i e
      rwa [if_pos e] at h
    · rename_i e
      rw [if_neg e] at h
      exact ih h
theorem Fr.get_app_r {pre : Fr} {s : Nat} {v : Value} (h : Fr.get pre s = none) : Fr.get (pre ++ [(s, v)]) s = some v := by
  induction pre with
  | nil => simp [Fr.get]
  | cons p pre ih =>
    obtain ⟨k, x⟩ := p
    simp only [List.cons_append, Fr.get] at h ⊢
    split
    · rename_i e
      rw [if_pos e] at h; cases h
    · rename_i e
      rw [if_neg e] at h
      exact ih h
theorem hr_shift {ρ : Rho} {H : Heap} {w : World} (hh : HR ρ H w) {t : Nat} {b : Blk} (off : Nat) (hb : H.get t = some b) :
    ∃ L, HR (upd ρ H.length L) (H.set t none ++ [some ⟨b.xs.drop off, false, b.e, b.sz⟩]) w ∧ ∀ n cv, SlR ρ ⟨t, off, none⟩ n cv → SlR (upd ρ H.length L) ⟨H.length, 0, none⟩ n cv := by
  have ht := Heap.get_lt hb
  obtain ⟨L0, hL0⟩ := hh.some_of ht
  have old : ∀ {t' : Nat} {b' : Blk}, Heap.get (H.set t none) t' = some b' → t' ≠ t ∧ t' < H.length ∧ H.get t' = some b' := fun {t' b'} h => by
    have e : t' ≠ t := by
      rintro rfl
      rw [Heap.get_set_self ht] at h; cases h
    have h2 := Heap.get_set_ne (H := H) (x := none) e
    rw [h2] at h
    exact ⟨e, Heap.get_lt h, h⟩
  have bl := hh.blk t b L0 hb hL0
  refine ⟨L0.cut off, ?_, ?_⟩
  · have hle := upd_le hh (L0.cut off)
    refine ⟨fun t' => ?_, fun t' b' L' hb' hL' => ?_, fun t1 t2 b1 b2 A cap sz A' cap' sz' hne h1 h2 ho ho2 g1 g2 => ?_⟩
    · by_cases e : t' = H.length
      · subst e
        rw [upd_new]
        simp
      · rw [upd_old e, hh.dom t']
        simp
        omega
    · rcases Heap.get_snoc hb' with ⟨h1, h2⟩ | ⟨h1, h2⟩
      · obtain ⟨o1, o2, o3⟩ := old h2
        rw [upd_old (by omega)] at hL'
        exact (hh.blk t' b' L' o3 hL').mono hle fun _ _ _ _ _ => rfl
      · cases h2
        rw [List.length_set] at h1
        subst h1
        rw [upd_new] at hL'
        cases hL'
        cases L0 with
        | virt =>
          have : b.xs = [] := bl
          show b.xs.drop off = []
          rw [this]; simp
        | real A cap sz =>
          obtain ⟨c1, c2, c3, c4, _⟩ := bl
          refine ⟨add_spot _ _ c1, c2, by simp only [List.length_drop]; omega, fun j v hj => ?_, fun h => by cases h⟩
          rw [List.getElem?_drop] at hj
          obtain ⟨cv, k1, k2⟩ := c4 _ _ hj
          exact ⟨cv, by rw [add_add]; exact k1, k2.mono hle⟩
    · rcases Heap.get_snoc h1 with ⟨_, k1⟩ | ⟨_, k1⟩
      · obtain ⟨o1, o2, o3⟩ := old k1
        rw [upd_old (by omega)] at g1
        rcases Heap.get_snoc h2 with ⟨_, k2⟩ | ⟨k0, k2⟩
        · obtain ⟨p1, p2, p3⟩ := old k2
          rw [upd_old (by omega)] at g2
          exact hh.far t1 t2 b1 b2 A cap sz A' cap' sz' hne o3 p3 ho ho2 g1 g2
        · cases k2
          rw [List.length_set] at k0
          subst k0
          rw [upd_new] at g2
          have hx : b.xs ≠ [] := by
            rcases ho2 with h | h
            · cases h
            · intro e
              simp only at h
              rw [e] at h
              simp at h
          cases L0 with
          | virt => cases g2
          | real A0 c0 s0 =>
            cases g2
            rw [add_block]
            exact hh.far t1 t b1 b A cap sz A0 c0 _ o1 o3 hb ho (.inr hx) g1 hL0
      · cases k1
        cases ho
  · rintro n cv ⟨_, L, A', c', e1, e2, e3, e4, e5⟩
    rw [hL0] at e1
    cases e1
    refine ⟨rfl, _, A', c', upd_new, e2, e3, e4, ?_⟩
    rcases e5 with e5 | ⟨A, cap, sz, e5, e6, e7⟩
    · refine .inl ⟨e5.1, fun A cap sz h => ?_⟩
      cases L0 with
      | virt => cases h
      | real A0 c0 s0 =>
        cases h
        have := e5.2 _ _ _ rfl
        simp only at this ⊢
        omega
    · subst e5
      simp only at e6 e7
      refine .inr ⟨_, _, _, rfl, ?_, by simp only; omega⟩
      rw [e6, add_add]; rfl
/-- a slice that begins within its block is one that begins a block of its own -/
theorem AWp.shift {P : Program} {N : Nat} {H0 H : Heap} {Q : APost} {c : Code} (H1 : Heap) {t off n k k' s m : Nat} {pre : Fr} {b : Blk} (hb : H.get t = some b) (e1 : H1 = H.set t none ++ [some ⟨b.xs.drop off, false, b.e, b.sz⟩]) (em : m = H.length)
    (h : AWp P N H0 c Q (pre ++ [(s, .slice (some ⟨m, 0, none⟩) n k')]) H1) : AWp P N H0 c Q (pre ++ [(s, .slice (some ⟨t, off, none⟩) n k)]) H := fun ρ0 w0 ρ a w h0 he hf hh => by
  subst e1; subst em
  obtain ⟨L, h1, h2⟩ := hr_shift hh off hb
  have hle := upd_le hh L
  refine h ρ0 w0 _ a w h0 ⟨he.os, he.tape, he.output, he.size, by have := he.len; simp; omega, fun t' ht' => ?_, he.old, fun t' b' A cap sz hb' ho hρ => ?_⟩ ⟨hf.defers, hf.size, fun t' v hv => ?_⟩ h1
  · rw [upd_old (by have := he.len; omega)]
    exact he.rho t' ht'
  · rcases Heap.get_snoc hb' with ⟨k1, k2⟩ | ⟨k1, k2⟩
    · have e : t' ≠ t := by
        rintro rfl
        rw [Heap.get_set_self (Heap.get_lt hb)] at k2; cases k2
      rw [Heap.get_set_ne e] at k2
      rw [upd_old (by have := Heap.get_lt k2; omega)] at hρ
      exact he.fresh t' b' A cap sz k2 ho hρ
    · cases k2; cases ho
  · rcases Fr.get_app hv with h3 | ⟨h3, rfl, rfl⟩
    · exact (hf.slot t' v (Fr.get_app_l h3)).mono hle
    · have := hf.slot s _ (Fr.get_app_r h3)
      exact h2 _ _ this
/-- what a part of the code ends in: a state that says no less than fr1 and H1 do -/
structure StepEnd (H0 : Heap) (fr1 : Fr) (H1 : Heap) (fr : Fr) (H : Heap) : Prop where
  w : WeakS H0 fr1 H1 fr H
def stepQ (H0 : Heap) (Q : APost) (fr1 : Fr) (H1 : Heap) : APost
  | .normal, fr, H => StepEnd H0 fr1 H1 fr H
  | e, fr, H => Q e fr H
def codeTake : Nat → Code → Code
  | 0, _ => .skip
  | k + 1, .seq a b => .seq a (codeTake k b)
  | _ + 1, c => c
def codeDrop : Nat → Code → Code
  | 0, c => c
  | k + 1, .seq _ b => codeDrop k b
  | _ + 1, _ => .skip
section
variable {P : Program} {N : Nat} {H0 H H1 : Heap} {fr fr1 : Fr} {Q : APost}
theorem stepQ_normal : stepQ H0 Q fr1 H1 .normal fr H = StepEnd H0 fr1 H1 fr H := rfl
theorem stepQ_ret : stepQ H0 Q fr1 H1 .ret fr H = Q .ret fr H := rfl
theorem stepQ_exit {id : Nat} : stepQ H0 Q fr1 H1 (.exit id) fr H = Q (.exit id) fr H := rfl
attribute [go_sem ↓] stepQ_normal stepQ_ret stepQ_exit
theorem vcCode_take {a b : Code} {k : Nat} : vcCode P N H0 (codeTake (k + 1) (.seq a b)) Q fr H = vcCode P N H0 (.seq a (codeTake k b)) Q fr H := rfl
theorem vcCode_take0 {c : Code} : vcCode P N H0 (codeTake 0 c) Q fr H = Q .normal fr H := rfl
attribute [go_sem ↓] vcCode_take vcCode_take0
theorem StepEnd.awp {c : Code} (h : StepEnd H0 fr1 H1 fr H) (hb : AWp P N H0 c Q fr1 H1) : AWp P N H0 c Q fr H := fun ρ0 w0 ρ a w h0 he hf hh => by
  obtain ⟨ρ'', h1, h2, h3⟩ := h.w.sound h0.toHR he hh hf
  exact hb ρ0 w0 ρ'' a w h0 h2 h3 h1
theorem AWp_drop {a b : Code} {k : Nat} : AWp P N H0 (codeDrop (k + 1) (.seq a b)) Q fr H = AWp P N H0 (codeDrop k b) Q fr H := rfl
theorem AWp_drop0 {c : Code} : AWp P N H0 (codeDrop 0 c) Q fr H = AWp P N H0 c Q fr H := rfl
def codeSeqs : Nat → Code → Bool
  | 0, _ => true
  | k + 1, .seq _ b => codeSeqs k b
  | _ + 1, _ => false
theorem step_sound : ∀ (k : Nat) (c : Code) (fr : Fr) (H : Heap), codeSeqs k c = true → codeOk N (codeTake k c) = true → vcCode P N H0 (codeTake k c) (stepQ H0 Q fr1 H1) fr H → AWp P N H0 (codeDrop k c) Q fr1 H1 → AWp P N H0 c Q fr H
  | 0, c, fr, H, _, _, ha, hb => StepEnd.awp (fr1 := fr1) (H1 := H1) ha hb
  | k + 1, .seq a b, fr, H, hs, hc, ha, hb => by
    simp only [codeTake, codeOk, Bool.and_eq_true] at hc
    refine AWp.seq ((vcCode_sound a _ fr H hc.1 ha).mono fun e fr' H' hq => ?_)
    cases e with
    | normal => exact step_sound k b fr' H' hs hc.2 hq hb
    | _ => exact hq
/-- the first k steps of the code, and what is left -/
theorem AWp.step (k : Nat) (fr1 : Fr) (H1 : Heap) {c : Code} {fr : Fr} {H : Heap} (hs : codeSeqs k c = true) (hc : codeOk N (codeTake k c) = true) (ha : vcCode P N H0 (codeTake k c) (stepQ H0 Q fr1 H1) fr H) (hb : AWp P N H0 (codeDrop k c) Q fr1 H1) :
    AWp P N H0 c Q fr H := step_sound k c fr H hs hc ha hb
theorem AWp.last {c : Code} (hc : codeOk N c = true) (h : vcCode P N H0 c Q fr H) : AWp P N H0 c Q fr H := vcCode_sound c Q fr H hc h
/-- a part of the code whose end is told by a relation -/
structure StepR (H0 : Heap) (I : Fr → Heap → Prop) (fr : Fr) (H : Heap) : Prop where
  ex : ∃ fr1 H1, I fr1 H1 ∧ WeakS H0 fr1 H1 fr H
theorem StepR.of {I : Fr → Heap → Prop} (fr1 : Fr) (H1 : Heap) (h : I fr1 H1) (hw : WeakS H0 fr1 H1 fr H) : StepR H0 I fr H := ⟨fr1, H1, h, hw⟩
def stepRQ (H0 : Heap) (Q : APost) (I : Fr → Heap → Prop) : APost
  | .normal, fr, H => StepR H0 I fr H
  | e, fr, H => Q e fr H
section
variable {I : Fr → Heap → Prop}
theorem stepRQ_normal : stepRQ H0 Q I .normal fr H = StepR H0 I fr H := rfl
theorem stepRQ_ret : stepRQ H0 Q I .ret fr H = Q .ret fr H := rfl
theorem stepRQ_exit {id : Nat} : stepRQ H0 Q I (.exit id) fr H = Q (.exit id) fr H := rfl
attribute [go_sem ↓] stepRQ_normal stepRQ_ret stepRQ_exit
theorem stepR_sound : ∀ (k : Nat) (c : Code) (fr : Fr) (H : Heap), codeSeqs k c = true → codeOk N (codeTake k c) = true → vcCode P N H0 (codeTake k c) (stepRQ H0 Q I) fr H → (∀ fr1 H1, I fr1 H1 → AWp P N H0 (codeDrop k c) Q fr1 H1) → AWp P N H0 c Q fr H
  | 0, c, fr, H, _, _, ha, hb => by
    obtain ⟨fr1, H1, hI, hw⟩ := (show StepR H0 I fr H from ha).ex
    exact StepEnd.awp ⟨hw⟩ (hb fr1 H1 hI)
  | k + 1, .seq a b, fr, H, hs, hc, ha, hb => by
    simp only [codeTake, codeOk, Bool.and_eq_true] at hc
    refine AWp.seq ((vcCode_sound a _ fr H hc.1 ha).mono fun e fr' H' hq => ?_)
    cases e with
    | normal => exact stepR_sound k b fr' H' hs hc.2 hq hb
    | _ => exact hq
theorem AWp.stepR (k : Nat) (I : Fr → Heap → Prop) {c : Code} {fr : Fr} {H : Heap} (hs : codeSeqs k c = true) (hc : codeOk N (codeTake k c) = true) (ha : vcCode P N H0 (codeTake k c) (stepRQ H0 Q I) fr H)
    (hb : ∀ fr1 H1, I fr1 H1 → AWp P N H0 (codeDrop k c) Q fr1 H1) : AWp P N H0 c Q fr H := stepR_sound k c fr H hs hc ha hb
end
/-- a result without addresses; the heap has grown behind G -/
structure EndT (G : Heap) (v : Value) (Hf : Heap) (vf : Value) : Prop where
  v : vf = v
  h : ∃ L, Hf = G ++ L
def FinVT (G : Heap) (v : Value) (Hf : Heap) : Option Value → Prop
  | some vf => EndT G v Hf vf
  | none => False
def FinT (P : Program) (rs : List ResultVar) (G : Heap) (v : Value) : APost
  | .normal, fr, Hf => FinVT G v Hf (aRes P rs fr Hf)
  | .ret, fr, Hf => FinVT G v Hf (aRes P rs fr Hf)
  | _, _, _ => False
section
variable {G : Heap} {v : Value} {rs : List ResultVar}
theorem finT_normal : FinT P rs G v .normal fr H = FinVT G v H (aRes P rs fr H) := rfl
theorem finT_ret : FinT P rs G v .ret fr H = FinVT G v H (aRes P rs fr H) := rfl
theorem finVT_some {vf : Value} : FinVT G v H (some vf) = EndT G v H vf := rfl
attribute [go_sem ↓] finT_normal finT_ret
attribute [go_sem] finVT_some
/-- what is left of the code, told from the heap that has come about -/
theorem AWp.rebase {c : Code} {L : Heap} (hv : flat2 v = true) (e : G = H0 ++ L) (h : AWp P N G c (FinT P rs G v) fr G) : AWp P N H0 c (Fin P rs H0 v H0) fr G := fun ρ0 w0 ρ a w h0 he hf hh => by
  refine wp_mono (h ρ w ρ a w (h0.ext he hh) (Ext.refl _ _ _) hf hh) ?_
  rintro x a' w' ⟨fr', Hf, ρ', hq, hf', hh', he'⟩
  have key : FinVT G v Hf (aRes P rs fr' Hf) → FinV H0 v H0 Hf (aRes P rs fr' Hf) := fun hk => by
    cases hr : aRes P rs fr' Hf with
    | none => rw [hr] at hk; exact hk.elim
    | some vf =>
      rw [hr] at hk
      obtain ⟨h1, L2, h2⟩ := hk
      subst h2; subst e
      rw [List.append_assoc]
      exact fin_flat hv h1
  refine ⟨fr', Hf, ρ', ?_, hf', hh', he.trans he'⟩
  cases x with
  | normal => exact key hq
  | ret => exact key hq
  | _ => exact hq.elim
end
end
end Go.Am
