/- The abstract layer, part 18: a function's code in parts, each with its own end. -/
import Derived.Test.YtfpikkhbkmchgaaAm17
namespace Go.Am
open Go.RowKit
set_option linter.unusedVariables false

theorem AFunC.of_awp {P : Program} {f : FuncId} {fn : Func} {c : Code} {args : List Value} {H H' : Heap} {v : Value} (hf : P.funcs[f]? = some fn) (hn : (fn.name == "runtime.NumGoroutine") = false) (hb : fn.body = some c)
    (hargs : args.length ≤ fn.ntmps) (h : AWp P fn.ntmps H c (Fin P fn.results.toList H v H') (Fr.ofArgs 0 args) H) : AFunC P f args H v H' := by
  refine ⟨⟨fn, hf, by rw [hb]; rfl, hn⟩, ?_⟩
  intro ρ w cargs hh hl
  refine calls_of_wp hf hb ?_
  have hlen := hl.length
  simp only [Array.length_toList] at hlen
  have hfr : FrR ρ (Fr.ofArgs 0 args) fn.ntmps { tmps := cargs ++ Array.replicate (fn.ntmps - cargs.size) undef, defers := [] } := by
    refine ⟨rfl, by simp; omega, fun t u hu => ?_⟩
    obtain ⟨_, h2⟩ := Fr.ofArgs_get _ _ _ _ hu
    rw [Nat.sub_zero] at h2
    obtain ⟨cv, g1, g2⟩ := hl.get h2
    have ht : t < cargs.size := by
      have := (List.getElem?_eq_some_iff.1 g1).1
      simpa using this
    have g1' : cargs[t]? = some cv := by simpa using g1
    have : (cargs ++ Array.replicate (fn.ntmps - cargs.size) undef).getD t undef = cv := by
      rw [Array.getD_eq_getD_getElem?, Array.getElem?_append_left ht, g1']; rfl
    rw [this]
    exact SV.of1 g2
  refine wp_mono (h ρ w ρ _ w hh (Ext.refl _ _ _) hfr hh) ?_
  rintro e a' w' ⟨fr', Hf, ρ', hq, hf', hh', he'⟩
  have fin : FinV H v H' Hf (aRes P fn.results.toList fr' Hf) → a'.defers = [] ∧ ∃ cv, (results fn a'.tmps).run P w' = .ok cv w' ∧ ∃ cv' ρ'', Ending.returned cv = .returned cv' ∧ SV ρ'' v cv' ∧ HR ρ'' H' w' ∧ Ext ρ H w ρ'' H' w' := by
    intro hfin
    cases hr : aRes P fn.results.toList fr' Hf with
    | none => rw [hr] at hfin; exact hfin.elim
    | some vf =>
      rw [hr] at hfin
      obtain ⟨σ, k1, k2⟩ := hfin
      obtain ⟨cv, g1, g2⟩ := aRes_sound hf' hh' hr
      obtain ⟨m1, m2⟩ := k1.sound hh he' hh'
      exact ⟨hf'.defers, cv, g2, cv, _, rfl, k2.sound g1, m1, m2⟩
  cases e with
  | normal => exact fin hq
  | ret => exact fin hq
  | _ => exact hq.elim

/-- what a part of the code ends in: a state that says no less than fr1 and H1 do -/
structure StepEnd (H0 : Heap) (fr1 : Fr) (H1 : Heap) (fr : Fr) (H : Heap) : Prop where
  w : WeakS H0 fr1 H1 fr H
def stepQ (H0 : Heap) (Q : APost) (fr1 : Fr) (H1 : Heap) : APost
  | .normal, fr, H => StepEnd H0 fr1 H1 fr H
  | e, fr, H => Q e fr H
def codeTake : Nat → Code → Code
  | 0, _ => .skip
  | k + 1, .seq a b => .seq a (codeTake k b)
  | _ + 1, c => c
def codeDrop : Nat → Code → Code
  | 0, c => c
  | k + 1, .seq _ b => codeDrop k b
  | _ + 1, _ => .skip
section
variable {P : Program} {N : Nat} {H0 H H1 : Heap} {fr fr1 : Fr} {Q : APost}
theorem stepQ_normal : stepQ H0 Q fr1 H1 .normal fr H = StepEnd H0 fr1 H1 fr H := rfl
theorem stepQ_ret : stepQ H0 Q fr1 H1 .ret fr H = Q .ret fr H := rfl
theorem stepQ_exit {id : Nat} : stepQ H0 Q fr1 H1 (.exit id) fr H = Q (.exit id) fr H := rfl
attribute [go_sem ↓] stepQ_normal stepQ_ret stepQ_exit
theorem vcCode_take {a b : Code} {k : Nat} : vcCode P N H0 (codeTake (k + 1) (.seq a b)) Q fr H = vcCode P N H0 (.seq a (codeTake k b)) Q fr H := rfl
theorem vcCode_take0 {c : Code} : vcCode P N H0 (codeTake 0 c) Q fr H = Q .normal fr H := rfl
attribute [go_sem ↓] vcCode_take vcCode_take0
theorem StepEnd.awp {c : Code} (h : StepEnd H0 fr1 H1 fr H) (hb : AWp P N H0 c Q fr1 H1) : AWp P N H0 c Q fr H := fun ρ0 w0 ρ a w h0 he hf hh => by
  obtain ⟨ρ'', h1, h2, h3⟩ := h.w.sound h0 he hh hf
  exact hb ρ0 w0 ρ'' a w h0 h2 h3 h1
theorem AWp_drop {a b : Code} {k : Nat} : AWp P N H0 (codeDrop (k + 1) (.seq a b)) Q fr H = AWp P N H0 (codeDrop k b) Q fr H := rfl
theorem AWp_drop0 {c : Code} : AWp P N H0 (codeDrop 0 c) Q fr H = AWp P N H0 c Q fr H := rfl
def codeSeqs : Nat → Code → Bool
  | 0, _ => true
  | k + 1, .seq _ b => codeSeqs k b
  | _ + 1, _ => false
theorem step_sound : ∀ (k : Nat) (c : Code) (fr : Fr) (H : Heap), codeSeqs k c = true → codeOk N (codeTake k c) = true → vcCode P N H0 (codeTake k c) (stepQ H0 Q fr1 H1) fr H → AWp P N H0 (codeDrop k c) Q fr1 H1 → AWp P N H0 c Q fr H
  | 0, c, fr, H, _, _, ha, hb => StepEnd.awp (fr1 := fr1) (H1 := H1) ha hb
  | k + 1, .seq a b, fr, H, hs, hc, ha, hb => by
    simp only [codeTake, codeOk, Bool.and_eq_true] at hc
    refine AWp.seq ((vcCode_sound a _ fr H hc.1 ha).mono fun e fr' H' hq => ?_)
    cases e with
    | normal => exact step_sound k b fr' H' hs hc.2 hq hb
    | _ => exact hq
/-- the first k steps of the code, and what is left -/
theorem AWp.step (k : Nat) (fr1 : Fr) (H1 : Heap) {c : Code} {fr : Fr} {H : Heap} (hs : codeSeqs k c = true) (hc : codeOk N (codeTake k c) = true) (ha : vcCode P N H0 (codeTake k c) (stepQ H0 Q fr1 H1) fr H) (hb : AWp P N H0 (codeDrop k c) Q fr1 H1) :
    AWp P N H0 c Q fr H := step_sound k c fr H hs hc ha hb
theorem AWp.last {c : Code} (hc : codeOk N c = true) (h : vcCode P N H0 c Q fr H) : AWp P N H0 c Q fr H := vcCode_sound c Q fr H hc h
end
end Go.Am
