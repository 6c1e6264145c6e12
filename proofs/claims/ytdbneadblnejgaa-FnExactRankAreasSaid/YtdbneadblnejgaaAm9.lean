/- The abstract layer, part 9: lists of operations, regions that draw their order, code, a function's body. -/
import Derived.Test.YtdbneadblnejgaaAm8
namespace Go.Am
open Go.RowKit
set_option linter.unusedVariables false

/-! ### Lists of operations -/
/-- two ways: simp goes into neither before the test is decided -/
structure AIf (b : Bool) (X Y : Prop) (tx : Tok X) (ty : Tok Y) : Prop where
  yes : b = true → X
  no : b = false → Y
theorem AIf.of {b : Bool} {X Y : Prop} {tx : Tok X} {ty : Tok Y} (h1 : b = true → X) (h2 : b = false → Y) : AIf b X Y tx ty := ⟨h1, h2⟩
theorem AIf_true {X Y : Prop} {tx : Tok X} {ty : Tok Y} : AIf true X Y tx ty ↔ X := ⟨fun h => h.yes rfl, fun h => AIf.of (fun _ => h) (fun e => nomatch e)⟩
theorem AIf_false {X Y : Prop} {tx : Tok X} {ty : Tok Y} : AIf false X Y tx ty ↔ Y := ⟨fun h => h.no rfl, fun h => AIf.of (fun e => nomatch e) (fun _ => h)⟩
def slotOf (ops : Array Oper) (j : Nat) : Option Nat := (ops[j]?).bind (·.dst)
def vcGuard (x : Option Value) (want : Bool) (R S U : Prop) (tr : Tok R) (ts : Tok S) (tu : Tok U) : Prop :=
  match x with
  | some (.bool b) => (match want with | true => AIf b R S .mk .mk | false => AIf b S R .mk .mk)
  | some (.tuple _) => U
  | _ => False
def slotV (fr : Fr) (s : Option Nat) : Option Value := match s with | some g => fr.get g | none => none
def vcOps (P : Program) (ops : Array Oper) : List Oper → (Fr → Heap → Prop) → Fr → Heap → Prop
  | [], K, fr, H => K fr H
  | o :: l, K, fr, H => match o.guard with
    | none => vcOp P o (vcOps P ops l K) fr H
    | some (j, want) => vcGuard (slotV fr (slotOf ops j)) want (St (vcOp P o (vcOps P ops l K)) .mk (Fr.put fr (slotOf ops j) (.bool want)) H) (St (vcOps P ops l K) .mk (Fr.put (Fr.put fr (slotOf ops j) (.bool !want)) o.dst undef) H) (St (vcOps P ops l K) .mk (Fr.put fr o.dst undef) H) .mk .mk .mk

/-! ### The same for operations that leave the heap as it is -/
def roH (H : Heap) : Heap := H.map fun b => b.map fun b => { b with own := false }
structure ACallQ (P : Program) (f : FuncId) (args : List Value) (H : Heap) (K : Value → Prop) (tok : Tok K) : Prop where
  ex : ∃ v, flat2 v = true ∧ AFunC P f args (roH H) v (roH H) ∧ K v
theorem ACallQ.of {P : Program} {f : FuncId} {args : List Value} {H : Heap} {v : Value} {K : Value → Prop} {tok : Tok K} (h : AFunC P f args (roH H) v (roH H)) (hf : flat2 v = true) (hK : K v) : ACallQ P f args H K tok := ⟨⟨v, hf, h, hK⟩⟩
def St1 (C : Fr → Prop) (tok : Tok C) (fr : Fr) : Prop := C fr
def kput1 (K : Fr → Prop) (fr : Fr) (dst : Option Tmp) (v : Value) : Prop := St1 K .mk (fr.put dst v)
def onQ (x : Option Value) (K : Value → Prop) (tok : Tok K) : Prop := match x with | some v => K v | none => False
def vcCallQ (P : Program) (H : Heap) (K : Value → Prop) (tok : Tok K) (f : Option Value) (vs : Option (List Value)) : Prop :=
  match f, vs with
  | some (.func (.func g) _ cap), some vs => vs.all isArg = true ∧ ACallQ P g (vs ++ cap.toList) H K .mk
  | _, _ => False
def vcQ1 (P : Program) (o : Oper) (K : Fr → Prop) (fr : Fr) (H : Heap) : Prop :=
  match o.op with
  | .call c => (match c.callee with
    | .value f => vcCallQ P H (kput1 K fr o.dst) .mk (aEv fr f) (aAll (c.args.toList.map (aEv fr)))
    | .builtin b => onQ (aBuiltin P b c.argTypes.toList (c.args.toList.map (aEv fr))) (kput1 K fr o.dst) .mk
    | _ => False)
  | op => onQ (aOp P fr H op) (kput1 K fr o.dst) .mk
def vcQ (P : Program) (ops : Array Oper) (H : Heap) : List Oper → (Fr → Prop) → Fr → Prop
  | [], K, fr => K fr
  | o :: l, K, fr => match o.guard with
    | none => vcQ1 P o (vcQ P ops H l K) fr H
    | some (j, want) => vcGuard (slotV fr (slotOf ops j)) want (St (vcQ1 P o (vcQ P ops H l K)) .mk (Fr.put fr (slotOf ops j) (.bool want)) H) (St1 (vcQ P ops H l K) .mk (Fr.put (Fr.put fr (slotOf ops j) (.bool !want)) o.dst undef)) (St1 (vcQ P ops H l K) .mk (Fr.put fr o.dst undef)) .mk .mk .mk

section
variable {P : Program} {N : Nat} {H0 : Heap} {o : Oper} {fr : Fr} {H : Heap} {ρ : Rho} {a : Act} {w : World}

theorem FrR.refine {t : Nat} {v : Value} (h : FrR ρ fr N a) (hv : SV ρ v (a.tmps.getD t undef)) : FrR ρ ((t, v) :: fr) N a := by
  refine ⟨h.defers, h.size, fun s u hu => ?_⟩
  simp only [Fr.get] at hu
  split at hu
  · rename_i e; subst e; cases hu; exact hv
  · exact h.slot s u hu

theorem yielded_of {ops : Array Oper} {j g : Nat} {b : Bool} (hf : FrR ρ fr N a) (hs : slotOf ops j = some g) (hg : fr.get g = some (.bool b)) : yielded ops a.tmps j = some b ∧ a.tmps.getD g undef = .bool b := by
  have h1 := SV_bool (hf.slot g _ hg)
  have h2 : a.tmps[g]? = some (.bool b) := by
    rw [Array.getD_eq_getD_getElem?] at h1
    cases hq : a.tmps[g]? with
    | none => rw [hq] at h1; cases h1
    | some v => rw [hq] at h1; simp only [Option.getD_some] at h1; rw [h1]
  unfold slotOf at hs
  exact ⟨by unfold yielded; rw [hs]; simp [h2], h1⟩

theorem SV_tuple {ρ : Rho} {x : Array Value} {cv : Value} (h : SV ρ (.tuple x) cv) : ∃ y, cv = .tuple y := by
  obtain ⟨y, rfl, _⟩ := h; exact ⟨y, rfl⟩
theorem yielded_none {ops : Array Oper} {j g : Nat} {x : Array Value} (hf : FrR ρ fr N a) (hs : slotOf ops j = some g) (hg : fr.get g = some (.tuple x)) : yielded ops a.tmps j = none := by
  obtain ⟨y, h1⟩ := SV_tuple (hf.slot g _ hg)
  unfold slotOf at hs
  unfold yielded
  rw [hs]
  rw [Array.getD_eq_getD_getElem?] at h1
  cases hq : a.tmps[g]? with
  | none => simp [hq]
  | some v => rw [hq] at h1; simp only [Option.getD_some] at h1; subst h1; simp [hq]

theorem vcOps_sound {ops : Array Oper} {Q : APost} : ∀ (l : List Oper) (fr : Fr) (H : Heap), (∀ o ∈ l, Fr.dstOk N o.dst = true) → vcOps P ops l (Q .normal) fr H →
    ∀ ρ0 w0 ρ a w, HG P ρ0 H0 w0 → Ext ρ0 H0 w0 ρ H w → FrR ρ fr N a → HR ρ H w → wpList P ops (Post ρ0 H0 w0 N Q) l a w
  | [], fr, H, _, h, ρ0, w0, ρ, a, w, h0, he, hf, hh => wpList_nil ⟨fr, H, ρ, h, hf, hh, he⟩
  | o :: l, fr, H, hd, h, ρ0, w0, ρ, a, w, h0, he, hf, hh => by
    have hdo := hd o (by simp)
    have hdl : ∀ o ∈ l, Fr.dstOk N o.dst = true := fun o ho => hd o (by simp [ho])
    have run : ∀ fr, vcOp P o (vcOps P ops l (Q .normal)) fr H → FrR ρ fr N a → ∀ K : Act → World → Prop, (∀ a w, wpList P ops (Post ρ0 H0 w0 N Q) l a w → K a w) → o.wp P a w K (Post ρ0 H0 w0 N Q) := by
      intro fr h hf K hK
      refine Oper.wp_mono ?_ (vcOp_sound hdo h ρ0 w0 ρ a w h0 he hf hh _)
      rintro a' w' ⟨fr', H', ρ', k1, k2, k3, k4⟩
      exact hK _ _ (vcOps_sound l fr' H' hdl k1 ρ0 w0 ρ' a' w' h0 k4 k2 k3)
    simp only [vcOps] at h
    cases hg : o.guard with
    | none =>
      rw [hg] at h
      exact wpList_plain hg fun K hK => run fr h hf K hK
    | some jw =>
      obtain ⟨j, want⟩ := jw
      rw [hg] at h
      simp only at h
      cases hs : slotOf ops j with
      | none => rw [hs] at h; exact h.elim
      | some g =>
        rw [hs] at h
        simp only [slotV] at h
        cases hv : fr.get g with
        | none => rw [hv] at h; exact h.elim
        | some v =>
          rw [hv] at h
          cases v with
          | bool b =>
            obtain ⟨h1, h2⟩ : (b = want → vcOp P o (vcOps P ops l (Q .normal)) ((g, .bool want) :: fr) H) ∧ (b = !want → vcOps P ops l (Q .normal) (Fr.put ((g, .bool !want) :: fr) o.dst undef) H) := by
              simp only [vcGuard] at h
              cases want
              · exact ⟨fun e => h.no e, fun e => h.yes e⟩
              · exact ⟨fun e => h.yes e, fun e => h.no e⟩
            obtain ⟨y1, y2⟩ := yielded_of hf hs hv
            refine wpList_step fun K hK => ?_
            by_cases hb : b = want
            · rw [if_pos (by simp [Region.wanted, hg, y1, hb])]
              exact run _ (h1 hb) (hf.refine (by rw [y2, hb]; rfl)) K hK
            · have hb' : b = !want := by cases b <;> cases want <;> simp_all
              rw [if_neg (by simp [Region.wanted, hg, y1, hb])]
              exact hK _ _ (vcOps_sound l _ H hdl (h2 hb') ρ0 w0 ρ _ w h0 he ((hf.refine (t := g) (v := .bool (!want)) (by rw [y2, hb']; rfl)).put_undef hdo) hh)
          | tuple x =>
            have y1 := yielded_none hf hs hv
            refine wpList_step fun K hK => ?_
            rw [if_neg (by simp [Region.wanted, hg, y1])]
            exact hK _ _ (vcOps_sound l _ H hdl h ρ0 w0 ρ _ w h0 he (hf.put_undef hdo) hh)
          | _ => exact h.elim

/-! ### A region that draws its order, and whose operations leave the heap as it is -/
theorem roH_get {t : Nat} : Heap.get (roH H) t = (H.get t).map fun b => { b with own := false } := by
  unfold Heap.get roH
  rw [List.getElem?_map]
  cases H[t]? with
  | none => rfl
  | some b => cases b <;> rfl
theorem roH_length : (roH H).length = H.length := by simp [roH]
theorem roH_owned {k : Nat} : ¬ OwnedBy ρ (roH H) k := by
  rintro ⟨t, b, A, cap, sz, h1, h2, _⟩
  rw [roH_get] at h1
  cases hb : H.get t with
  | none => rw [hb] at h1; cases h1
  | some b0 => rw [hb] at h1; cases h1; cases h2
theorem HR.ro (h : HR ρ H w) : HR ρ (roH H) w := by
  refine ⟨fun t => by rw [h.dom t, roH_length], fun t b L hb hL => ?_, fun t t' b b' A cap sz A' cap' sz' _ hb _ ho => ?_⟩
  · rw [roH_get] at hb
    cases hb0 : H.get t with
    | none => rw [hb0] at hb; cases hb
    | some b0 =>
      rw [hb0] at hb
      cases hb
      have := h.blk t b0 L hb0 hL
      cases L with
      | virt => exact this
      | real A cap sz => exact ⟨this.1, this.2.1, this.2.2.1, this.2.2.2.1, fun h => by cases h⟩
  · rw [roH_get] at hb
    cases hb0 : H.get t with
    | none => rw [hb0] at hb; cases hb
    | some b0 => rw [hb0] at hb; cases hb; cases ho
theorem HR.below {w' : World} (h : HR ρ H w) (hb : Below w.heap.size w w') : HR ρ H w' :=
  ⟨h.dom, fun t b L h1 h2 => (h.blk t b L h1 h2).mono (fun _ _ h => h) fun A cap sz hA ho => hb.block _ (BlkR.lt (hA ▸ h.blk t b L h1 h2) ho), h.far⟩
theorem HG.ro {P : Program} (h : HG P ρ H w) : HG P ρ (roH H) w := ⟨h.toHR.ro, h.gl, fun k _ => roH_owned⟩
theorem HG.below {P : Program} {w' : World} (h : HG P ρ H w) (hb : Below w.heap.size w w') : HG P ρ H w' :=
  ⟨h.toHR.below hb, h.gl.keep fun k hk => hb.block k (h.gl.lt hk), h.gno⟩
theorem Ext.below {ρ0 : Rho} {w0 w' : World} (h : Ext ρ0 H0 w0 ρ H w) (hb : Below w.heap.size w w') : Ext ρ0 H0 w0 ρ H w' :=
  ⟨hb.os.trans h.os, hb.tape.trans h.tape, hb.output.trans h.output, Nat.le_trans h.size hb.size, h.len, h.rho, fun k hk hno => (hb.block k (Nat.lt_of_lt_of_le hk h.size)).trans (h.old k hk hno), h.fresh⟩

theorem vcQ1_sound {K : Fr → Prop} {KA : Act → Prop} (hd : Fr.dstOk N o.dst = true) (hf : FrR ρ fr N a) (hg : HG P ρ H w) (h : vcQ1 P o K fr H) (hK : ∀ fr' a', K fr' → FrR ρ fr' N a' → KA a') :
    o.quiet P a (Below w.heap.size w) KA := by
  have hh := hg.toHR
  have pure_ : ∀ {v : Value}, POp P o.op ρ a w v → K (fr.put o.dst v) → o.quiet P a (Below w.heap.size w) KA := by
    rintro v ⟨cv, h1, h2⟩ hk
    exact ⟨cv, fun w' hw' => by unfold Oper.quietAt; rw [h2 o w' rfl fun k hk => hw'.block k hk]; exact ⟨rfl, rfl⟩, hK _ _ hk (hf.put hd h1)⟩
  unfold vcQ1 at h
  split at h
  · rename_i c ho
    split at h
    · rename_i f hc
      cases hfv : aEv fr f with
      | none => rw [hfv] at h; exact h.elim
      | some fv => cases hv : aAll (c.args.toList.map (aEv fr)) with
        | none => rw [hfv, hv] at h; cases fv <;> first | exact h.elim | (rename_i fn _ _; cases fn <;> exact h.elim)
        | some vs =>
          rw [hfv, hv] at h
          cases fv with
          | func fn first cap => cases fn with
            | func g =>
              obtain ⟨ha, ⟨⟨v, hfl, ⟨⟨fn, c1, c2, c3⟩, hfun⟩, hk⟩⟩⟩ := h
              obtain ⟨cap', e1, e2, e3⟩ := (show ∃ cap', a.eval f = .func (.func g) first cap' ∧ first = #[] ∧ L2 (PR ρ) cap.toList cap'.toList from aEv_sound hf hfv)
              subst e2
              have hargs := (aAll_sound hf hv).to1 ha
              have hcap : L2 (SV1 ρ) cap.toList cap'.toList := e3.mono fun x y hxy => by
                obtain ⟨ad, A, cp, sz, rfl, r⟩ := hxy
                exact ⟨ad, A, cp, sz, rfl, r⟩
              refine ⟨v, fun w' hw' => ?_, hK _ _ hk (hf.put hd ((SV_flat2 hfl).2 rfl))⟩
              have hcalls := hfun ρ w' (c.args.map a.eval ++ cap') (hg.below hw').ro (by simpa using hargs.append hcap)
              have c2' : ¬ fn.body = none := by intro e; rw [e] at c2; cases c2
              have c3' : ¬ fn.name = "runtime.NumGoroutine" := by simpa using c3
              have hrun : (execOp a.eval o).run P w' = .ok (.enter g (c.args.map a.eval ++ cap')) w' := by
                simp [execOp, ho, resolve, hc, e1, Deferred.ofValue, invoke, callFunc, c1, c2', c3']
              unfold Oper.quietAt
              rw [hrun]
              refine ⟨rfl, Calls.mono hcalls ?_⟩
              rintro e w'' ⟨cv, ρ', rfl, g1, g2, g3⟩
              rw [(SV_flat2 hfl).1 g1]
              exact ⟨rfl, hw'.trans ⟨g3.os, g3.tape, g3.output, g3.size, fun k hk => g3.old k (Nat.lt_of_lt_of_le hk hw'.size) roH_owned⟩⟩
            | _ => exact h.elim
          | _ => exact h.elim
    · rename_i b hc
      cases hv : aBuiltin P b c.argTypes.toList (c.args.toList.map (aEv fr)) with
      | none => rw [hv] at h; exact h.elim
      | some v => rw [hv] at h; exact pure_ (by rw [ho]; exact aBuiltin_sound hf hc hv) h
    · exact h.elim
  · cases hv : aOp P fr H o.op with
    | none => rw [hv] at h; exact h.elim
    | some v => rw [hv] at h; exact pure_ (aOp_sound hf hh hv) h

theorem vcQ_sound {ops : Array Oper} {K : Fr → Prop} {KA : Act → Prop} (hh : HG P ρ H w) (hK : ∀ fr' a', K fr' → FrR ρ fr' N a' → KA a') : ∀ (l : List Oper) (fr : Fr) (a : Act), (∀ o ∈ l, Fr.dstOk N o.dst = true) → FrR ρ fr N a →
    vcQ P ops H l K fr → wpQuiet P ops (Below w.heap.size w) KA l a
  | [], fr, a, _, hf, h => wpQuiet_nil (hK fr a h hf)
  | o :: l, fr, a, hd, hf, h => by
    have hdo := hd o (by simp)
    have hdl : ∀ o ∈ l, Fr.dstOk N o.dst = true := fun o ho => hd o (by simp [ho])
    have next : ∀ fr' a', vcQ P ops H l K fr' → FrR ρ fr' N a' → wpQuiet P ops (Below w.heap.size w) KA l a' := fun fr' a' h' hf' => vcQ_sound hh hK l fr' a' hdl hf' h'
    simp only [vcQ] at h
    refine wpQuiet_step fun K' hK' => ?_
    cases hg : o.guard with
    | none =>
      rw [hg] at h
      rw [if_pos (by simp [Region.wanted, hg])]
      exact vcQ1_sound hdo hf hh h fun fr' a' k1 k2 => hK' _ (next fr' a' k1 k2)
    | some jw =>
      obtain ⟨j, want⟩ := jw
      rw [hg] at h
      simp only at h
      cases hs : slotOf ops j with
      | none => rw [hs] at h; exact h.elim
      | some g =>
        rw [hs] at h
        simp only [slotV] at h
        cases hv : fr.get g with
        | none => rw [hv] at h; exact h.elim
        | some v =>
          rw [hv] at h
          cases v with
          | bool b =>
            obtain ⟨h1, h2⟩ : (b = want → vcQ1 P o (vcQ P ops H l K) ((g, .bool want) :: fr) H) ∧ (b = !want → vcQ P ops H l K (Fr.put ((g, .bool !want) :: fr) o.dst undef)) := by
              simp only [vcGuard] at h
              cases want
              · exact ⟨fun e => h.no e, fun e => h.yes e⟩
              · exact ⟨fun e => h.yes e, fun e => h.no e⟩
            obtain ⟨y1, y2⟩ := yielded_of hf hs hv
            by_cases hb : b = want
            · rw [if_pos (by simp [Region.wanted, hg, y1, hb])]
              exact vcQ1_sound hdo (hf.refine (t := g) (v := .bool want) (by rw [y2, hb]; rfl)) hh (h1 hb) fun fr' a' k1 k2 => hK' _ (next fr' a' k1 k2)
            · have hb' : b = !want := by cases b <;> cases want <;> simp_all
              rw [if_neg (by simp [Region.wanted, hg, y1, hb])]
              exact hK' _ (next _ _ (h2 hb') ((hf.refine (t := g) (v := .bool (!want)) (by rw [y2, hb']; rfl)).put_undef hdo))
          | tuple x =>
            have y1 := yielded_none hf hs hv
            rw [if_neg (by simp [Region.wanted, hg, y1])]
            exact hK' _ (next _ _ h (hf.put_undef hdo))
          | _ => exact h.elim

def APost.now (Q : APost) (H : Heap) (fr : Fr) : Prop := Q .normal fr H
theorem AWp.quiet {id : Nat} {ops : Array Oper} {Q : APost} (hm : P.follows .mixedOrders = true) (hB : Region.lexB .any ops = true) (hd : ∀ o ∈ ops.toList, Fr.dstOk N o.dst = true)
    (h : vcQ P ops H ops.toList (Q.now H) fr) : AWp P N H0 (.region id ops true) Q fr H := by
  intro ρ0 w0 ρ a w h0 he hf hh
  refine wp_region_quiet hm hB (C := Below w.heap.size w) ⟨rfl, rfl, rfl, Nat.le_refl _, fun _ _ => rfl⟩ ?_
  refine vcQ_sound (h0.ext he hh) (fun fr' a' hk hf' w' hw' => ?_) ops.toList fr a hd hf h
  exact ⟨fr', H, ρ, hk, hf', hh.below hw', he.below hw'⟩
end

/-! ### Code -/
def codeOk (N : Nat) : Code → Bool
  | .region _ ops _ => ops.toList.all fun o => Fr.dstOk N o.dst
  | .seq a b => codeOk N a && codeOk N b
  | .cond _ a b => codeOk N a && codeOk N b
  | .block _ c => codeOk N c
  | .loop c => codeOk N c
  | _ => true
/-- a region that draws its order: see AWp.quiet -/
structure ADraw (P : Program) (N : Nat) (H0 : Heap) (id : Nat) (ops : Array Oper) (Q : APost) (fr : Fr) (H : Heap) (tok : Tok (ops, Q)) : Prop where
  wp : AWp P N H0 (.region id ops true) Q fr H
/-- a loop: see AWp.loop -/
structure ALoop (P : Program) (N : Nat) (H0 : Heap) (c : Code) (Q : APost) (fr : Fr) (H : Heap) (tok : Tok (c, Q)) : Prop where
  wp : codeOk N c = true → AWp P N H0 (.loop c) Q fr H

def vcCode (P : Program) (N : Nat) (H0 : Heap) : Code → APost → Fr → Heap → Prop
  | .skip, Q, fr, H => Q .normal fr H
  | .label _, Q, fr, H => Q .normal fr H
  | .region _ ops false, Q, fr, H => vcOps P ops ops.toList (Q .normal) fr H
  | .region id ops true, Q, fr, H => ADraw P N H0 id ops Q fr H .mk
  | .seq a b, Q, fr, H => vcCode P N H0 a (Q.seq (vcCode P N H0 b Q)) fr H
  | .cond c a b, Q, fr, H => vcGuard (aEv fr c) true (vcCode P N H0 a Q fr H) (vcCode P N H0 b Q fr H) False .mk .mk .mk
  | .block id c, Q, fr, H => vcCode P N H0 c (Q.blk id) fr H
  | .loop c, Q, fr, H => ALoop P N H0 c Q fr H .mk
  | .exit id, Q, fr, H => Q (.exit id) fr H
  | .ret, Q, fr, H => Q .ret fr H
  | _, _, _, _ => False

section
variable {P : Program} {N : Nat} {H0 : Heap}
theorem vcCode_sound : ∀ (c : Code) (Q : APost) (fr : Fr) (H : Heap), codeOk N c = true → vcCode P N H0 c Q fr H → AWp P N H0 c Q fr H
  | .skip, Q, fr, H, _, h => AWp.skip h
  | .label _, Q, fr, H, _, h => AWp.label h
  | .region id ops false, Q, fr, H, hc, h => fun ρ0 w0 ρ a w h0 he hf hh =>
    wp_region_list (vcOps_sound ops.toList fr H (fun o ho => List.all_eq_true.1 hc o ho) h ρ0 w0 ρ a w h0 he hf hh)
  | .region id ops true, Q, fr, H, _, h => h.wp
  | .seq a b, Q, fr, H, hc, h => by
    simp only [codeOk, Bool.and_eq_true] at hc
    refine AWp.seq ((vcCode_sound a _ fr H hc.1 h).mono fun e fr' H' hq => ?_)
    cases e with
    | normal => exact vcCode_sound b Q fr' H' hc.2 hq
    | _ => exact hq
  | .cond c a b, Q, fr, H, hc, h => by
    simp only [codeOk, Bool.and_eq_true] at hc
    simp only [vcCode] at h
    cases ht : aEv fr c with
    | none => rw [ht] at h; exact h.elim
    | some v =>
      rw [ht] at h
      cases v with
      | bool t => exact AWp.cond ht (fun e => vcCode_sound a Q fr H hc.1 (h.yes e)) (fun e => vcCode_sound b Q fr H hc.2 (h.no e))
      | _ => exact h.elim
  | .block id c, Q, fr, H, hc, h => AWp.block (vcCode_sound c _ fr H hc h)
  | .loop c, Q, fr, H, hc, h => h.wp hc
  | .exit id, Q, fr, H, _, h => AWp.exit h
  | .ret, Q, fr, H, _, h => AWp.ret h
  | .rangeFunc .., _, _, _, _, h => h.elim
  | .scope _, _, _, _, _, h => h.elim
  | .goto _, _, _, _, _, h => h.elim
  | .refuse _, _, _, _, _, h => h.elim

theorem ADraw.quiet {id : Nat} {ops : Array Oper} {Q : APost} {fr : Fr} {H : Heap} {tok : Tok (ops, Q)} (hm : P.follows .mixedOrders = true) (hB : Region.lexB .any ops = true) (hd : (ops.toList.all fun o => Fr.dstOk N o.dst) = true)
    (h : vcQ P ops H ops.toList (Q.now H) fr) : ADraw P N H0 id ops Q fr H tok := ⟨AWp.quiet hm hB (fun o ho => List.all_eq_true.1 hd o ho) h⟩

structure LoopEnd {ι : Type} (H0 : Heap) (I : ι → Prop) (SF : ι → Fr) (SH : ι → Heap) (μ : ι → Nat) (i : ι) (fr' : Fr) (H' : Heap) : Prop where
  ex : ∃ j, I j ∧ μ j < μ i ∧ WeakS H0 (SF j) (SH j) fr' H'
theorem LoopEnd.of {ι : Type} {H0 : Heap} {I : ι → Prop} {SF : ι → Fr} {SH : ι → Heap} {μ : ι → Nat} {i : ι} {fr' : Fr} {H' : Heap} (j : ι) (h1 : I j) (h2 : μ j < μ i) (h3 : WeakS H0 (SF j) (SH j) fr' H') : LoopEnd H0 I SF SH μ i fr' H' := ⟨⟨j, h1, h2, h3⟩⟩
/-- a loop whose head's state is one of a family -/
theorem ALoop.intro {ι : Type} {c : Code} {Q : APost} {fr : Fr} {H : Heap} {tok : Tok (c, Q)} (I : ι → Prop) (SF : ι → Fr) (SH : ι → Heap) (μ : ι → Nat) (i₀ : ι) (hI : I i₀) (hw : WeakS H0 (SF i₀) (SH i₀) fr H)
    (round : ∀ i, I i → vcCode P N H0 c (Q.seq (LoopEnd H0 I SF SH μ i)) (SF i) (SH i)) : ALoop P N H0 c Q fr H tok :=
  .mk fun hc => AWp.loop I (fun i => (SF i, SH i)) μ i₀ hI hw fun i hi => (vcCode_sound c _ _ _ hc (round i hi)).mono fun e fr' H' h => by
    cases e with
    | normal => exact h.ex
    | _ => exact h

/-! ### A function's body -/
def aRes1 (P : Program) (fr : Fr) (H : Heap) : ResultVar → Option Value
  | .tmp t => fr.get t
  | .cell p t => aLoadV (loadT P t) H (fr.get p)
def aRes (P : Program) (rs : List ResultVar) (fr : Fr) (H : Heap) : Option Value :=
  match aAll (rs.map (aRes1 P fr H)) with
  | some [v] => some v
  | some l => if l.all isArg = true then some (.tuple l.toArray) else none
  | none => none

def resSem (tmps : Array Value) : ResultVar → Sem Value
  | .tmp t => pure (tmps.getD t undef)
  | .cell p t => do loadVar t (← asAddr (tmps.getD p undef))
theorem aRes1_sound {ρ : Rho} {fr : Fr} {a : Act} {H : Heap} {w : World} (hf : FrR ρ fr N a) (hh : HR ρ H w) {r : ResultVar} {v : Value} (h : aRes1 P fr H r = some v) :
    ∃ cv, SV ρ v cv ∧ (resSem a.tmps r).run P w = .ok cv w := by
  cases r with
  | tmp t => exact ⟨_, hf.slot t v h, rfl⟩
  | cell p t =>
    simp only [aRes1] at h
    cases hp : fr.get p with
    | none => rw [hp] at h; cases h
    | some u =>
      rw [hp] at h
      obtain ⟨cv, h1, h2⟩ := aLoadV_sound (x := .tmp p) hh (hf.slot p u hp) h
      refine ⟨cv, h1, ?_⟩
      have := h2 { dst := none, op := .load t (.tmp p), type := 0, pos := "", after := #[], guard := none } w rfl fun _ _ => rfl
      have he : a.eval (.tmp p) = a.tmps.getD p undef := rfl
      simp only [execOp, he, Instr.loadAt] at this
      cases hv : a.tmps.getD p undef with
      | pointer q => cases q with
        | none => rw [hv] at this; simp [Instr.sureAddr] at this
        | some ad =>
          rw [hv] at this
          simp only [Instr.sureAddr, Sem.run_bind, Sem.run_pure, Result.andThen_ok] at this
          simp only [resSem, hv, asAddr, Sem.run_bind, Sem.run_pure, Result.andThen_ok]
          cases hl : (loadVar t ad).run P w with
          | ok x w' => rw [hl] at this; simp at this; obtain ⟨rfl, rfl⟩ := this; rfl
          | halt x w' => rw [hl] at this; simp at this
      | _ => rw [hv] at this; simp [Instr.sureAddr] at this

theorem aRes_sound {ρ : Rho} {fr : Fr} {a : Act} {H : Heap} {w : World} (hf : FrR ρ fr N a) (hh : HR ρ H w) {fn : Func} {v : Value} (h : aRes P fn.results.toList fr H = some v) :
    ∃ cv, SV ρ v cv ∧ (results fn a.tmps).run P w = .ok cv w := by
  have key : ∀ (rs : List ResultVar) (l : List Value), aAll (rs.map (aRes1 P fr H)) = some l → ∃ cl : List Value, L2 (SV ρ) l cl ∧
      (rs.mapM (resSem a.tmps)).run P w = .ok cl w := by
    intro rs
    induction rs with
    | nil => intro l h; simp [aAll] at h; subst h; exact ⟨[], trivial, rfl⟩
    | cons r rs ih =>
      intro l h
      simp only [List.map_cons] at h
      cases hr : aRes1 P fr H r with
      | none => rw [hr] at h; cases h
      | some u =>
        rw [hr] at h
        simp only [aAll] at h
        cases hl : aAll (rs.map (aRes1 P fr H)) with
        | none => rw [hl] at h; cases h
        | some l' =>
          rw [hl] at h
          cases h
          obtain ⟨cl, g1, g2⟩ := ih l' hl
          obtain ⟨cv, k1, k2⟩ := aRes1_sound hf hh hr
          refine ⟨cv :: cl, ⟨k1, g1⟩, ?_⟩
          rw [List.mapM_cons, Sem.run_bind, k2]
          simp only [Result.andThen_ok, Sem.run_bind, g2, Sem.run_pure]
  unfold aRes at h
  cases hl : aAll (fn.results.toList.map (aRes1 P fr H)) with
  | none => rw [hl] at h; cases h
  | some l =>
    rw [hl] at h
    obtain ⟨cl, g1, g2⟩ := key _ _ hl
    have hrun : (results fn a.tmps).run P w = .ok (if h : cl.toArray.size = 1 then cl.toArray[0] else .tuple cl.toArray) w := by
      have hres : results fn a.tmps = (do let vs ← fn.results.mapM (resSem a.tmps); pure (if h : vs.size = 1 then vs[0] else .tuple vs)) := by
        unfold results
        congr 1
      rw [hres]
      rw [Array.mapM_eq_mapM_toList, Sem.run_bind, Sem.run_map, g2]
      simp only [Result.andThen_ok, Sem.run_pure]
    rw [hrun]
    match l, cl, g1, h with
    | [u], [c], g1, h => cases h; exact ⟨c, g1.1, by simp⟩
    | [], [], g1, h =>
      simp only at h
      split at h
      · cases h; exact ⟨.tuple #[], ⟨#[], rfl, trivial⟩, by simp⟩
      · cases h
    | x :: y :: l, cx :: cy :: cl, g1, h =>
      simp only at h
      split at h
      · rename_i ha
        cases h
        exact ⟨.tuple (cx :: cy :: cl).toArray, ⟨_, rfl, g1.to1 ha⟩, by simp⟩
      · cases h

/-- The value v in H' says no more than vf in Hf says. -/
def WeakV (H0 : Heap) (v : Value) (H' : Heap) (vf : Value) (Hf : Heap) : Prop := ∃ σ, Weak H0 σ H' Hf ∧ WS σ H'.length v vf
def FinV (H0 : Heap) (v : Value) (H' : Heap) (Hf : Heap) : Option Value → Prop
  | some vf => WeakV H0 v H' vf Hf
  | none => False
def Fin (P : Program) (rs : List ResultVar) (H0 : Heap) (v : Value) (H' : Heap) : APost
  | .normal, fr, Hf => FinV H0 v H' Hf (aRes P rs fr Hf)
  | .ret, fr, Hf => FinV H0 v H' Hf (aRes P rs fr Hf)
  | _, _, _ => False

theorem AFunC.of_body {f : FuncId} {fn : Func} {c : Code} {args : List Value} {H H' : Heap} {v : Value} (hf : P.funcs[f]? = some fn) (hn : (fn.name == "runtime.NumGoroutine") = false) (hb : fn.body = some c)
    (hok : codeOk fn.ntmps c = true) (hargs : args.length ≤ fn.ntmps) (h : vcCode P fn.ntmps H c (Fin P fn.results.toList H v H') (Fr.ofArgs 0 args) H) : AFunC P f args H v H' := by
  refine ⟨⟨fn, hf, by rw [hb]; rfl, hn⟩, ?_⟩
  intro ρ w cargs hg hl
  have hh := hg.toHR
  refine calls_of_wp hf hb ?_
  have hlen := hl.length
  simp only [Array.length_toList] at hlen
  have hfr : FrR ρ (Fr.ofArgs 0 args) fn.ntmps { tmps := cargs ++ Array.replicate (fn.ntmps - cargs.size) undef, defers := [] } := by
    refine ⟨rfl, by simp; omega, fun t u hu => ?_⟩
    obtain ⟨_, h2⟩ := Fr.ofArgs_get _ _ _ _ hu
    rw [Nat.sub_zero] at h2
    obtain ⟨cv, g1, g2⟩ := hl.get h2
    have ht : t < cargs.size := by
      have := (List.getElem?_eq_some_iff.1 g1).1
      simpa using this
    have g1' : cargs[t]? = some cv := by simpa using g1
    have : (cargs ++ Array.replicate (fn.ntmps - cargs.size) undef).getD t undef = cv := by
      rw [Array.getD_eq_getD_getElem?, Array.getElem?_append_left ht, g1']; rfl
    rw [this]
    exact SV.of1 g2
  refine wp_mono (vcCode_sound c _ _ _ hok h ρ w ρ _ w hg (Ext.refl _ _ _) hfr hh) ?_
  rintro e a' w' ⟨fr', Hf, ρ', hq, hf', hh', he'⟩
  have fin : FinV H v H' Hf (aRes P fn.results.toList fr' Hf) → a'.defers = [] ∧ ∃ cv, (results fn a'.tmps).run P w' = .ok cv w' ∧ ∃ cv' ρ'', Ending.returned cv = .returned cv' ∧ SV ρ'' v cv' ∧ HR ρ'' H' w' ∧ Ext ρ H w ρ'' H' w' := by
    intro hfin
    cases hr : aRes P fn.results.toList fr' Hf with
    | none => rw [hr] at hfin; exact hfin.elim
    | some vf =>
      rw [hr] at hfin
      obtain ⟨σ, k1, k2⟩ := hfin
      obtain ⟨cv, g1, g2⟩ := aRes_sound hf' hh' hr
      obtain ⟨m1, m2⟩ := k1.sound hh he' hh'
      exact ⟨hf'.defers, cv, g2, cv, _, rfl, k2.sound g1, m1, m2⟩
  cases e with
  | normal => exact fin hq
  | ret => exact fin hq
  | _ => exact hq.elim

end
end Go.Am
