/- The abstract layer, part 7: one operation (vcOp), a list of operations (vcOps), code (vcCode): sufficient conditions that simp lays out; a function's body. -/
import Derived.Test.YtdbneadblnejgaaAm6
namespace Go.Am
open Go.RowKit
set_option linter.unusedVariables false

/-- What simp shall leave alone: a type that depends on it. -/
inductive Tok {α : Sort _} (k : α) : Type where
  | mk
/-- go on from a state: simp looks into the state, not into what follows -/
def St (C : Fr → Heap → Prop) (tok : Tok C) (fr : Fr) (H : Heap) : Prop := C fr H

/-! ### Values without addresses, and arguments -/
def isArg : Value → Bool | .tuple _ => false | _ => true
def flat1 : Value → Bool | .agg cs => cs.toList.all flat | v => flat v
def flat2 : Value → Bool | .tuple vs => vs.toList.all flat1 | v => flat1 v
theorem L2_flat {ρ : Rho} : ∀ {xs ys : List Value}, xs.all flat = true → (L2 (CR ρ) xs ys ↔ ys = xs)
  | [], [], _ => by simp [L2]
  | x :: xs, y :: ys, h => by
    simp only [List.all_cons, Bool.and_eq_true] at h
    simp only [L2, CR_flat h.1, L2_flat h.2, List.cons.injEq]
  | [], _ :: _, _ => by simp [L2]
  | _ :: _, [], _ => by simp [L2]
theorem SV1_flat1 {ρ : Rho} {v cv : Value} (h : flat1 v = true) : SV1 ρ v cv ↔ cv = v := by
  cases v with
  | agg cs =>
    simp only [flat1] at h
    constructor
    · rintro ⟨cs', rfl, h2⟩
      have := (L2_flat h).1 h2
      cases cs; cases cs'; simp_all
    · rintro rfl
      exact ⟨cs, rfl, (L2_flat h).2 rfl⟩
  | pointer a => cases a <;> simp_all [flat1, flat, SV1, CR]
  | slice a n c => cases a <;> simp_all [flat1, flat, SV1, CR]
  | _ => simp_all [flat1, flat, SV1, CR]
theorem L2_flat1 {ρ : Rho} : ∀ {xs ys : List Value}, xs.all flat1 = true → (L2 (SV1 ρ) xs ys ↔ ys = xs)
  | [], [], _ => by simp [L2]
  | x :: xs, y :: ys, h => by
    simp only [List.all_cons, Bool.and_eq_true] at h
    simp only [L2, SV1_flat1 h.1, L2_flat1 h.2, List.cons.injEq]
  | [], _ :: _, _ => by simp [L2]
  | _ :: _, [], _ => by simp [L2]
theorem SV_flat2 {ρ : Rho} {v cv : Value} (h : flat2 v = true) : SV ρ v cv ↔ cv = v := by
  cases v with
  | tuple vs =>
    simp only [flat2] at h
    constructor
    · rintro ⟨cs', rfl, h2⟩
      have := (L2_flat1 h).1 h2
      cases vs; cases cs'; simp_all
    · rintro rfl
      exact ⟨vs, rfl, (L2_flat1 h).2 rfl⟩
  | _ => simp only [SV, flat2] at h ⊢; exact SV1_flat1 h
theorem SV.to1 {ρ : Rho} {v cv : Value} (h : SV ρ v cv) (ha : isArg v = true) : SV1 ρ v cv := by
  cases v <;> first | exact h | cases ha
theorem L2.to1 {ρ : Rho} : ∀ {vs cs : List Value}, L2 (SV ρ) vs cs → vs.all isArg = true → L2 (SV1 ρ) vs cs
  | [], [], _, _ => trivial
  | x :: xs, y :: ys, h, ha => by
    simp only [List.all_cons, Bool.and_eq_true] at ha
    exact ⟨h.1.to1 ha.1, L2.to1 h.2 ha.2⟩
  | [], _ :: _, h, _ => h.elim
  | _ :: _, [], h, _ => h.elim

/-! ### One operation -/
def PostK (ρ0 : Rho) (H0 : Heap) (w0 : World) (N : Nat) (K : Fr → Heap → Prop) : Act → World → Prop := fun a w => ∃ fr H ρ, K fr H ∧ FrR ρ fr N a ∧ HR ρ H w ∧ Ext ρ0 H0 w0 ρ H w
def ARun (P : Program) (N : Nat) (H0 : Heap) (o : Oper) (K : Fr → Heap → Prop) (fr : Fr) (H : Heap) : Prop :=
  ∀ ρ0 w0 ρ a w, HG P ρ0 H0 w0 → Ext ρ0 H0 w0 ρ H w → FrR ρ fr N a → HR ρ H w → ∀ Q, o.wp P a w (PostK ρ0 H0 w0 N K) Q

/-- a function that has a body and is none of the runtime's own -/
def callable (P : Program) (f : FuncId) : Prop := ∃ fn, P.funcs[f]? = some fn ∧ fn.body.isNone = false ∧ (fn.name == "runtime.NumGoroutine") = false
/-- the contract of a function that can be called -/
structure AFunC (P : Program) (f : FuncId) (args : List Value) (H : Heap) (v : Value) (H' : Heap) : Prop where
  callable : callable P f
  func : AFun P f args H v H'
/-- the call ends with a value and a heap of which Φ tells -/
def AFunRel (P : Program) (f : FuncId) (args : List Value) (H : Heap) (Φ : Value → Heap → Prop) : Prop :=
  ∀ (ρ : Rho) (w : World) (cargs : Array Value), HG P ρ H w → L2 (SV1 ρ) args cargs.toList →
    Calls P f cargs w fun e w' => ∃ v H' cv ρ', Φ v H' ∧ e = .returned cv ∧ SV ρ' v cv ∧ HR ρ' H' w' ∧ Ext ρ H w ρ' H' w'
structure AFunR (P : Program) (f : FuncId) (args : List Value) (H : Heap) (Φ : Value → Heap → Prop) : Prop where
  callable : callable P f
  func : AFunRel P f args H Φ
theorem AFunC.rel {P : Program} {f : FuncId} {args : List Value} {H H' : Heap} {v : Value} (h : AFunC P f args H v H') : AFunR P f args H fun u G => u = v ∧ G = H' :=
  ⟨h.callable, fun ρ w cargs hh hl => Calls.mono (h.func ρ w cargs hh hl) fun e w' ⟨cv, ρ', h1, h2⟩ => ⟨v, H', cv, ρ', ⟨rfl, rfl⟩, h1, h2⟩⟩
theorem AFunR.mono {P : Program} {f : FuncId} {args : List Value} {H : Heap} {Φ Ψ : Value → Heap → Prop} (h : AFunR P f args H Φ) (hi : ∀ v H', Φ v H' → Ψ v H') : AFunR P f args H Ψ :=
  ⟨h.callable, fun ρ w cargs hh hl => Calls.mono (h.func ρ w cargs hh hl) fun e w' ⟨v, H', cv, ρ', h1, h2⟩ => ⟨v, H', cv, ρ', hi _ _ h1, h2⟩⟩
structure ACall (P : Program) (f : FuncId) (args : List Value) (H : Heap) (K : Value → Heap → Prop) (tok : Tok K) : Prop where
  ex : ∃ Φ, AFunR P f args H Φ ∧ ∀ v H', Φ v H' → K v H'
theorem ACall.of {P : Program} {f : FuncId} {args : List Value} {H H' : Heap} {v : Value} {K : Value → Heap → Prop} {tok : Tok K} (h : AFunC P f args H v H') (hK : K v H') : ACall P f args H K tok := ⟨⟨_, h.rel, fun _ _ ⟨e1, e2⟩ => e1 ▸ e2 ▸ hK⟩⟩
theorem ACall.via {P : Program} {f : FuncId} {args : List Value} {H : Heap} {Φ : Value → Heap → Prop} {K : Value → Heap → Prop} {tok : Tok K} (h : AFunR P f args H Φ) (hK : ∀ v H', Φ v H' → K v H') : ACall P f args H K tok := ⟨⟨Φ, h, hK⟩⟩

def zeroT (P : Program) (t : TypeId) : Option (List Value) :=
  match P.info? t with
  | some i => (match i.zero with | some z => if z.cells.toList.all flat then some z.cells.toList else none | none => none)
  | none => none
def aStore (P : Program) (H : Heap) (t : TypeId) : Option Value → Option Value → Option Heap
  | some (.pointer (some ad)), some v =>
    match tySize P t, H.get ad.block with
    | some n, some b => if ad.spot = none ∧ b.own = true ∧ v.cells.size = n ∧ ad.off + n ≤ b.xs.length ∧ isArg v = true then
        some (H.set ad.block (some { b with xs := (match v.cells.toList with | [u] => b.xs.set ad.off u | l => b.xs.take ad.off ++ l ++ b.xs.drop (ad.off + n)) })) else none
    | _, _ => none
  | _, _ => none
/-- one of two ways, as a test on lengths tells -/
structure AppIf (c : Prop) (A B : Prop) (tok : Tok (A, B)) : Prop where
  yes : c → A
  no : ¬ c → B
theorem appIf_true {A B : Prop} {tok : Tok (A, B)} : AppIf True A B tok = A := propext ⟨fun h => h.yes trivial, fun h => ⟨fun _ => h, fun h' => absurd trivial h'⟩⟩
theorem appIf_false {A B : Prop} {tok : Tok (A, B)} : AppIf False A B tok = B := propext ⟨fun h => h.no id, fun h => ⟨False.elim, fun _ => h⟩⟩
theorem appIf_yes {c A B : Prop} {tok : Tok (A, B)} (hc : c) : AppIf c A B tok = A := propext ⟨fun h => h.yes hc, fun h => ⟨fun _ => h, fun h' => absurd hc h'⟩⟩
def vcAppend (P : Program) (t : TypeId) (H : Heap) (K : Value → Heap → Prop) (tok : Tok K) (sv xv : Option Value) : Prop :=
  match sv, xv with
  | some (.slice (some ad) n c), some x =>
    match appT P t with
    | some (e, sz, bytes) =>
      (match H.get ad.block, aElems H sz x with
      | some b, some (m, news) => AppIf (b.xs.length = ad.off + n * sz)
          ((ad.spot = none ∧ b.own = true ∧ b.e = e ∧ b.sz = sz ∧ (n + m) * bytes ≤ 140737488355328 ∧ n + m ≤ 9223372036854775807) ∧
            K (.slice (some ⟨H.length, 0, none⟩) (n + m) (n + m)) (H.set ad.block none ++ [some ⟨b.xs.drop ad.off ++ news, true, e, sz⟩]))
          ((ad.spot = none ∧ b.own = true ∧ b.e = e ∧ b.sz = sz ∧ ad.off + (n + m) * sz ≤ b.xs.length) ∧
            K (.slice (some ad) (n + m) c) (H.set ad.block (some ⟨b.xs.take (ad.off + n * sz) ++ news ++ b.xs.drop (ad.off + (n + m) * sz), b.own, b.e, b.sz⟩))) .mk
      | _, _ => False)
    | none => False
  | _, _ => False
/-- a slice's literal whose parts are all given, in order -/
def aParts (sz : Nat) : Nat → List (Nat × Option Value) → Option (List Value)
  | _, [] => some []
  | k, (i, some v) :: r => if i = k ∧ v.cells.size = sz ∧ isArg v = true then (match aParts sz (k + 1) r with | some l => some (v.cells.toList ++ l) | none => none) else none
  | _, (_, none) :: _ => none
def vcBuildSlice (P : Program) (t : TypeId) (H : Heap) (len : Nat) (parts : List (Nat × Option Value)) (K : Value → Heap → Prop) (tok : Tok K) : Prop :=
  match sliceT P t with
  | some (e, sz) => (match aParts sz 0 parts with
    | some l => (parts.length = len ∧ len * sz ≤ 16777216 ∧ len ≤ 9223372036854775807 ∧ (len * sz = 0 ∨ (zeroT P e).isSome = true)) ∧ K (.slice (some ⟨H.length, 0, none⟩) len len) (H ++ [some ⟨l, true, e, sz⟩])
    | none => False)
  | none => False
/-- a slice's zeroed elements -/
def rep (n : Nat) : List Value → List Value
  | [z] => List.replicate n z
  | zs => (List.replicate n zs).flatten
/-- the zero of an element, and its bytes: for make -/
def zeroNT (P : Program) (t : TypeId) : Option (TypeId × List Value × Nat) :=
  match P.underlying t with
  | some (.slice e) => (match P.info? e with
    | some i => (match i.zero with | some z => if i.size = z.cells.size ∧ 0 < z.cells.size ∧ z.cells.toList.all flat = true then some (e, z.cells.toList, i.bytes) else none | none => none)
    | none => none)
  | _ => none
def vcMakeSlice (P : Program) (t : TypeId) (H : Heap) (K : Value → Heap → Prop) (tok : Tok K) (lv cv : Option Value) : Prop :=
  match lv, cv with
  | some (.int _ l), some (.int _ c) =>
    match zeroNT P t with
    | some (e, zs, bytes) => (l = c ∧ 0 ≤ l ∧ bytes * l ≤ 281474976710656 ∧ l ≤ 9223372036854775807) ∧ K (.slice (some ⟨H.length, 0, none⟩) l.toNat l.toNat) (H ++ [some ⟨rep l.toNat zs, true, e, zs.length⟩])
    | none => False
  | _, _ => False
def aSetL (cs : List Value) (off : Nat) : List Value → List Value
  | [] => cs
  | v :: vs => aSetL (cs.set off v) (off + 1) vs
/-- the parts of a struct's or an array's value -/
def aFill (place : Nat → Option (Nat × Nat)) : List Value → List (Nat × Option Value) → Option (List Value)
  | cs, [] => some cs
  | cs, (i, some v) :: r => (match place i with
    | some (off, n) => if v.cells.size = n ∧ off + n ≤ cs.length ∧ isArg v = true then aFill place (aSetL cs off v.cells.toList) r else none
    | none => none)
  | _, (_, none) :: _ => none
def placeT (P : Program) (t : TypeId) (i : Nat) : Option (Nat × Nat) :=
  match P.underlying t with
  | some (.struct fs) => (match fs[i]? with | some f => (match P.info? f.type with | some j => some (f.offset, j.size) | none => none) | none => none)
  | some (.array _ e) => (match P.info? e with | some j => some (i * j.size, j.size) | none => none)
  | _ => none
def allPlaces (P : Program) (t : TypeId) : Bool :=
  match P.underlying t with
  | some (.struct fs) => fs.toList.all fun f => (P.info? f.type).isSome
  | some (.array _ e) => (P.info? e).isSome
  | _ => false
def aBuild (P : Program) (t : TypeId) (parts : List (Nat × Option Value)) : Option Value :=
  match zeroT P t with
  | some z => if allPlaces P t = true then (match aFill (placeT P t) z parts with | some l => some (.agg l.toArray) | none => none) else none
  | none => none

/-- go on with the value put into its slot (a name, so that simp doesn't go on ahead of the value) -/
def kput (K : Fr → Heap → Prop) (fr : Fr) (dst : Option Tmp) (v : Value) (H : Heap) : Prop := St K .mk (fr.put dst v) H
def onV (x : Option Value) (K : Value → Heap → Prop) (tok : Tok K) (H : Heap) : Prop := match x with | some v => K v H | none => False
def onH (x : Option Heap) (K : Value → Heap → Prop) (tok : Tok K) : Prop := match x with | some H' => K undef H' | none => False
def vcBox (e : TypeId) (H : Heap) (K : Value → Heap → Prop) (tok : Tok K) (x : Option Value) : Prop :=
  match x with
  | some v => isArg v = true ∧ K (.pointer (some ⟨H.length, 0, none⟩)) (H ++ [some ⟨v.cells.toList, true, e, 1⟩])
  | none => False
def vcNew (e : TypeId) (H : Heap) (K : Value → Heap → Prop) (tok : Tok K) (x : Option (List Value)) : Prop :=
  match x with
  | some l => K (.pointer (some ⟨H.length, 0, none⟩)) (H ++ [some ⟨l, true, e, 1⟩])
  | none => False
def vcCall (P : Program) (H : Heap) (K : Value → Heap → Prop) (tok : Tok K) (f : Option Value) (vs : Option (List Value)) : Prop :=
  match f, vs with
  | some (.func (.func g) _ cap), some vs => vs.all isArg = true ∧ ACall P g (vs ++ cap.toList) H K .mk
  | _, _ => False
def vcApp (P : Program) (H : Heap) (K : Value → Heap → Prop) (tok : Tok K) (xs : List (Option Value)) (ts : List TypeId) : Prop :=
  match xs, ts with
  | [s, x], [t, t'] => t' = t ∧ vcAppend P t H K .mk s x
  | _, _ => False
def aSlice2 (P : Program) (H : Heap) (t : TypeId) (st : Option (TypeId × Nat)) (x : Option Value) (lo hi : Option (Option Value)) : Option Value :=
  match aSlice P H t st x lo hi with
  | some v => some v
  | none => match hi with | some _ => aSliceX P H st x lo hi | none => none
/-- a slot of which nothing is known any more -/
def Fr.del (fr : Fr) : Option Tmp → Fr
  | some d => fr.filter fun p => p.1 != d
  | none => fr
def kdel (K : Fr → Heap → Prop) (fr : Fr) (dst : Option Tmp) (H : Heap) : Prop := St K .mk (fr.del dst) H
/-- x[l:h:m]: that it is within bounds; of what it is nothing is told -/
def vcSlice3 (st : Option (TypeId × Nat)) (x l h m : Option Value) (X : Prop) (tok : Tok X) : Prop :=
  match st, x, l, h, m with
  | some _, some (.slice (some _) n _), some (.int _ l), some (.int _ h), some (.int _ m) => (0 ≤ l ∧ l ≤ h ∧ h ≤ m ∧ m ≤ (n : Int)) ∧ X
  | _, _, _, _, _ => False
/-- element, zero cells: for clear -/
def clearT (P : Program) (t : TypeId) : Option (List Value) :=
  match P.underlying t with
  | some (.slice e) => (match P.info? e with
    | some i => (match i.zero with | some z => if i.size = z.cells.size ∧ 0 < z.cells.size ∧ z.cells.toList.all flat = true then some z.cells.toList else none | none => none)
    | none => none)
  | _ => none
def clearT1 (P : Program) : List TypeId → Option (List Value)
  | [t] => clearT P t
  | _ => none
def vcClear (K : Value → Heap → Prop) (tok : Tok K) (H : Heap) (zt : Option (List Value)) : List (Option Value) → Prop
  | [some (.slice (some ad) n _)] => (match zt, H.get ad.block with
    | some zs, some b => (ad.spot = none ∧ b.own = true ∧ 0 < n ∧ ad.off + n * zs.length ≤ b.xs.length) ∧ K (.tuple #[]) (H.set ad.block (some ⟨b.xs.take ad.off ++ rep n zs ++ b.xs.drop (ad.off + n * zs.length), b.own, b.e, b.sz⟩))
    | _, _ => False)
  | _ => False
/-- cells that hold bytes -/
def byteL : List Value → Option (List UInt8)
  | [] => some []
  | .int .u8 n :: r => if 0 ≤ n ∧ n ≤ 255 then (match byteL r with | some l => some (UInt8.ofNat n.toNat :: l) | none => none) else none
  | _ => none
def bytesT (P : Program) (t : TypeId) : Bool := match P.underlying t with | some (.slice e) => (match P.underlying e with | some (.int .u8) => true | _ => false) | _ => false
/-- a conversion, bytes to a string too -/
def aConv2 (P : Program) (H : Heap) (s d : TypeId) : Option Value → Option Value
  | some (.slice (some ad) n _) => if bytesT P s = true ∧ isStrT P d = true ∧ 0 < n then (match aCells H ad n with
    | some l => (match byteL l with | some b => some (.string ⟨b.toArray⟩) | none => none)
    | none => none) else none
  | x => aConv P s d x
def vcOp (P : Program) (o : Oper) (K : Fr → Heap → Prop) (fr : Fr) (H : Heap) : Prop :=
  match o.op with
  | .box e x => vcBox e H (kput K fr o.dst) .mk (aEv fr x)
  | .alloc e => vcNew e H (kput K fr o.dst) .mk (zeroT P e)
  | .build t parts => onV (aBuild P t (parts.toList.map fun p => (p.1, aEv fr p.2))) (kput K fr o.dst) .mk H
  | .buildSlice t len parts => vcBuildSlice P t H len (parts.toList.map fun p => (p.1, aEv fr p.2)) (kput K fr o.dst) .mk
  | .makeSlice t l c => vcMakeSlice P t H (kput K fr o.dst) .mk (aEv fr l) (aEv fr c)
  | .store t x v => onH (aStore P H t (aEv fr x) (aEv fr v)) (kput K fr o.dst) .mk
  | .call c => (match c.callee with
    | .value f => vcCall P H (kput K fr o.dst) .mk (aEv fr f) (aAll (c.args.toList.map (aEv fr)))
    | .builtin .append => vcApp P H (kput K fr o.dst) .mk (c.args.toList.map (aEv fr)) c.argTypes.toList
    | .builtin .clear => vcClear (kput K fr o.dst) .mk H (clearT1 P c.argTypes.toList) (c.args.toList.map (aEv fr))
    | .builtin b => onV (aBuiltin P b c.argTypes.toList (c.args.toList.map (aEv fr))) (kput K fr o.dst) .mk H
    | _ => False)
  | .slice t x lo hi none => onV (aSlice2 P H t (sliceT P t) (aEv fr x) (lo.map (aEv fr)) (hi.map (aEv fr))) (kput K fr o.dst) .mk H
  | .slice t x (some l) (some h) (some m) => vcSlice3 (sliceT P t) (aEv fr x) (aEv fr l) (aEv fr h) (aEv fr m) (kdel K fr o.dst H) .mk
  | .convert s d x => onV (aConv2 P H s d (aEv fr x)) (kput K fr o.dst) .mk H
  | op => onV (aOp P fr H op) (kput K fr o.dst) .mk H

section
variable {P : Program} {N : Nat} {H0 : Heap} {o : Oper} {K : Fr → Heap → Prop} {fr : Fr} {H : Heap}

theorem ARun.pure {v : Value} (hd : Fr.dstOk N o.dst = true) (h : aOp P fr H o.op = some v) (hK : K (fr.put o.dst v) H) : ARun P N H0 o K fr H := by
  intro ρ0 w0 ρ a w h0 he hf hh Q
  obtain ⟨cv, h1, h2⟩ := aOp_sound hf hh h
  unfold Oper.wp
  rw [h2 o w rfl fun _ _ => rfl]
  exact ⟨_, H, ρ, hK, hf.put hd h1, hh, he⟩

theorem ARun.eff {v : Value} {H' : Heap} (hd : Fr.dstOk N o.dst = true)
    (h : ∀ ρ a w, FrR ρ fr N a → HR ρ H w → ∃ cv ρ' w', (execOp a.eval o).run P w = .ok (.value cv) w' ∧ SV ρ' v cv ∧ ρ.le ρ' ∧ HR ρ' H' w' ∧ Ext ρ H w ρ' H' w')
    (hK : K (fr.put o.dst v) H') : ARun P N H0 o K fr H := by
  intro ρ0 w0 ρ a w h0 he hf hh Q
  obtain ⟨cv, ρ', w', h1, h2, h3, h4, h5⟩ := h ρ a w hf hh
  unfold Oper.wp
  rw [h1]
  exact ⟨_, H', ρ', hK, (hf.mono h3).put hd h2, h4, he.trans h5⟩

/-- a new block, its cells as the frame tells them -/
theorem ARun.new {xs : List Value} {e sz : Nat} {v : Value} (hd : Fr.dstOk N o.dst = true)
    (h : ∀ ρ a w, FrR ρ fr N a → HR ρ H w → ∃ (cur : Array Value) (cv : Value), L2 (CR ρ) xs cur.toList ∧ (execOp a.eval o).run P w = .ok (.value cv) (w.alloc (.cells cur e)) ∧
      SV (upd ρ H.length (.real ⟨w.heap.size, 0, none⟩ cur.size sz)) v cv)
    (hK : K (fr.put o.dst v) (H ++ [some ⟨xs, true, e, sz⟩])) : ARun P N H0 o K fr H := by
  refine ARun.eff hd (fun ρ a w hf hh => ?_) hK
  obtain ⟨cur, cv, h1, h2, h3⟩ := h ρ a w hf hh
  obtain ⟨g1, g2⟩ := alloc_sound hh e sz h1
  exact ⟨cv, _, _, h2, h3, upd_le hh _, g1, g2⟩

theorem box_sound {e : TypeId} {x : Operand} {v : Value} (ho : o.op = .box e x) (hd : Fr.dstOk N o.dst = true) (hx : aEv fr x = some v) (ha : isArg v = true)
    (hK : K (fr.put o.dst (.pointer (some ⟨H.length, 0, none⟩))) (H ++ [some ⟨v.cells.toList, true, e, 1⟩])) : ARun P N H0 o K fr H := by
  refine ARun.new hd (fun ρ a w hf hh => ?_) hK
  have h1 := ((aEv_sound hf hx).to1 ha).cells
  refine ⟨(a.eval x).cells, .pointer (some ⟨w.heap.size, 0, none⟩), h1, ?_, ?_⟩
  · simp [execOp, ho, Instr.box, newVar, newRow]
  · exact SV_ptr_mk (ad := ⟨H.length, 0, none⟩) rfl upd_new

theorem zeroT_spec {t : TypeId} {l : List Value} (h : zeroT P t = some l) : ∃ i z, P.info? t = some i ∧ i.zero = some z ∧ l = z.cells.toList ∧ l.all flat = true := by
  unfold zeroT at h
  split at h
  · rename_i i hi
    split at h
    · rename_i z hz
      split at h
      · rename_i hf; cases h; exact ⟨i, z, hi, hz, rfl, hf⟩
      · cases h
    · cases h
  · cases h

theorem alloc_op_sound {e : TypeId} {l : List Value} (ho : o.op = .alloc e) (hd : Fr.dstOk N o.dst = true) (hz : zeroT P e = some l)
    (hK : K (fr.put o.dst (.pointer (some ⟨H.length, 0, none⟩))) (H ++ [some ⟨l, true, e, 1⟩])) : ARun P N H0 o K fr H := by
  refine ARun.new hd (fun ρ a w hf hh => ?_) hK
  obtain ⟨i, z, hi, hzz, rfl, hfl⟩ := zeroT_spec hz
  refine ⟨z.cells, .pointer (some ⟨w.heap.size, 0, none⟩), (L2_flat hfl).2 rfl, ?_, ?_⟩
  · simp [execOp, ho, Instr.alloc, zeroValue, typeInfo, hi, hzz, newVar, newRow]
  · exact SV_ptr_mk (ad := ⟨H.length, 0, none⟩) rfl upd_new

theorem append_op_sound {c : Call} {s x : Operand} {t : TypeId} (ho : o.op = .call c) (hc : c.callee = .builtin .append) (hargs : c.args = #[s, x]) (hty : c.argTypes = #[t, t]) (hd : Fr.dstOk N o.dst = true)
    (h : vcAppend P t H (kput K fr o.dst) .mk (aEv fr s) (aEv fr x)) : ARun P N H0 o K fr H := by
  cases hs : aEv fr s with
  | none => rw [hs] at h; exact h.elim
  | some sv => cases hx : aEv fr x with
    | none => rw [hs, hx] at h; cases sv <;> first | exact h.elim | (rename_i p _ _; cases p <;> exact h.elim)
    | some xv =>
      rw [hs, hx] at h
      cases sv with
      | slice p n c0 => cases p with
        | none => exact h.elim
        | some ad =>
          simp only [vcAppend] at h
          cases hT : appT P t with
          | none => rw [hT] at h; exact h.elim
          | some q =>
            obtain ⟨e, sz, bytes⟩ := q
            rw [hT] at h
            simp only at h
            cases hb : H.get ad.block with
            | none => rw [hb] at h; exact h.elim
            | some b => cases he : aElems H sz xv with
              | none => rw [hb, he] at h; exact h.elim
              | some mn =>
                obtain ⟨m, news⟩ := mn
                rw [hb, he] at h
                obtain ⟨tg, off, sp⟩ := ad
                by_cases hlen : b.xs.length = off + n * sz
                · obtain ⟨⟨h1, h3, h4, h5, h7⟩, hK⟩ := h.yes hlen
                  simp only at h1
                  subst h1
                  refine ARun.eff hd (fun ρ a w hf hh => ?_) hK
                  have hs' := aEv_sound hf hs
                  obtain ⟨cv, ρ', w', g1, g2, g3, g4, g5⟩ := append_sound (ty := o.type) hh hT hs' hb h3 h4 h5 hlen (aEv_sound hf hx) he h7
                  refine ⟨cv, ρ', w', ?_, g2, g3, g4, g5⟩
                  simp [execOp, ho, resolve, hc, invoke, builtin, hargs, hty, g1]
                · obtain ⟨⟨h1, h3, h4, h5, h7⟩, hK⟩ := h.no hlen
                  simp only at h1
                  subst h1
                  refine ARun.eff hd (fun ρ a w hf hh => ?_) hK
                  have hs' := aEv_sound hf hs
                  obtain ⟨cv, w', g1, g2, g3, g4⟩ := append_in_sound (ty := o.type) hh hT hs' hb h3 h4 h5 (aEv_sound hf hx) he h7
                  refine ⟨cv, ρ, w', ?_, g2, fun _ _ h => h, g3, g4⟩
                  simp [execOp, ho, resolve, hc, invoke, builtin, hargs, hty, g1]
      | _ => exact h.elim

theorem call_sound {c : Call} {f : Operand} {g : FuncId} {first cap : Array Value} {vs : List Value} (ho : o.op = .call c) (hc : c.callee = .value f) (hd : Fr.dstOk N o.dst = true)
    (hf : aEv fr f = some (.func (.func g) first cap)) (hv : aAll (c.args.toList.map (aEv fr)) = some vs) (ha : vs.all isArg = true)
    (h : ACall P g (vs ++ cap.toList) H (kput K fr o.dst) .mk) : ARun P N H0 o K fr H := by
  obtain ⟨⟨Φ, ⟨⟨fn, c1, c2, c3⟩, hfun⟩, hK⟩⟩ := h
  intro ρ0 w0 ρ a w h0 he hfr hh Q
  obtain ⟨cap', e1, e2, e3⟩ := (show ∃ cap', a.eval f = .func (.func g) first cap' ∧ first = #[] ∧ L2 (PR ρ) cap.toList cap'.toList from aEv_sound hfr hf)
  subst e2
  have hargs := (aAll_sound hfr hv).to1 ha
  have hcap : L2 (SV1 ρ) cap.toList cap'.toList := e3.mono fun x y hxy => by
    obtain ⟨ad, A, cp, sz, rfl, r⟩ := hxy
    exact ⟨ad, A, cp, sz, rfl, r⟩
  have hcalls := hfun ρ w (c.args.map a.eval ++ cap') (h0.ext he hh) (by simpa using hargs.append hcap)
  unfold Oper.wp
  have hrun : (execOp a.eval o).run P w = .ok (.enter g (c.args.map a.eval ++ cap')) w := by
    have c2' : ¬ fn.body = none := by intro e; rw [e] at c2; cases c2
    have c3' : ¬ fn.name = "runtime.NumGoroutine" := by simpa using c3
    simp [execOp, ho, resolve, hc, e1, Deferred.ofValue, invoke, callFunc, c1, c2', c3']
  rw [hrun]
  refine Calls.mono hcalls ?_
  rintro e w' ⟨v, H', cv, ρ', hΦ, rfl, g1, g2, g3⟩
  exact ⟨_, H', ρ', hK v H' hΦ, (hfr.mono (g3.le hh)).put hd g1, g2, he.trans g3⟩

theorem store_op_sound {t : TypeId} {x y : Operand} {H' : Heap} (ho : o.op = .store t x y) (hd : Fr.dstOk N o.dst = true) (h : aStore P H t (aEv fr x) (aEv fr y) = some H') (hK : K (fr.put o.dst undef) H') : ARun P N H0 o K fr H := by
  intro ρ0 w0 ρ a w h0 he hf hh Q
  cases hx : aEv fr x with
  | none => rw [hx] at h; simp [aStore] at h
  | some u => cases hy : aEv fr y with
    | none => rw [hx, hy] at h; cases u <;> first | (simp [aStore] at h; done) | (rename_i p; cases p <;> simp [aStore] at h)
    | some v =>
      rw [hx, hy] at h
      cases u with
      | pointer p => cases p with
        | none => simp [aStore] at h
        | some ad =>
          obtain ⟨hs, A, cap, sz, hr, hcv⟩ := SV_ptr (aEv_sound hf hx)
          simp only [aStore] at h
          cases hn : tySize P t with
          | none => rw [hn] at h; cases h
          | some n => cases hb : H.get ad.block with
            | none => rw [hn, hb] at h; cases h
            | some b =>
              rw [hn, hb] at h
              simp only at h
              split at h
              · rename_i hcond
                obtain ⟨_, hown, hvn, hfit, harg⟩ := hcond
                have hcells := ((aEv_sound hf hy).to1 harg).cells
                have hcl : (a.eval y).cells.size = n := by have := hcells.length; simp at this; omega
                obtain ⟨cur, hAe, hg, hcs, hsz, hle, hl2⟩ := blk_cells hh hb hown hr
                have hAo : A.add ad.off = ⟨A.block, A.off + ad.off, none⟩ := by rw [hAe]; exact addr_addo _ _ _
                have hsize : P.info? t = none ∨ ∃ i, P.info? t = some i ∧ i.size = n := by
                  unfold tySize at hn
                  cases hi : P.info? t with
                  | none => exact .inl rfl
                  | some i => rw [hi] at hn; simp at hn; exact .inr ⟨i, rfl, hn⟩
                have hone := L2.oneCell hcells
                have hK' := hK
                have hvl : v.cells.toList.length = n := by simpa using hvn
                have hcl' : (a.eval y).cells.toList.length = n := by simpa using hcl
                have hst := run_storeCells_at P A.block (A.off + ad.off) b.e (a.eval y).cells.toList 0 cur w hg (by rw [hcl']; omega) hone
                have put := put_cells (p := ad.off) hl2 hcells (by omega) hcs hle
                rw [Nat.add_zero] at hst
                generalize hcur' : (cur.toList.take (A.off + ad.off) ++ (a.eval y).cells.toList ++ cur.toList.drop (A.off + ad.off + (a.eval y).cells.toList.length)).toArray = cur' at *
                have hcs' : cur'.size = A.off + cap := by
                  rw [← hcur', ← hcs]
                  simp only [List.size_toArray, List.length_append, List.length_take, List.length_drop, Array.length_toList]
                  omega
                rw [hvl] at put
                have hsp : (match v.cells.toList with | [u] => b.xs.set ad.off u | l => b.xs.take ad.off ++ l ++ b.xs.drop (ad.off + n)) = b.xs.take ad.off ++ v.cells.toList ++ b.xs.drop (ad.off + n) := by
                  split
                  · rename_i u hu
                    rw [hu] at hvl ⊢
                    have hn1 : n = 1 := by simpa using hvl.symm
                    subst hn1
                    rw [List.set_eq_take_append_cons_drop, if_pos (by omega)]
                    simp
                  · rfl
                cases h
                obtain ⟨g1, g2⟩ := store_sound hh hb hown hr hg (xs' := b.xs.take ad.off ++ v.cells.toList ++ b.xs.drop (ad.off + n)) (cur' := cur')
                  (by simp only [List.length_append, List.length_take, List.length_drop]; omega) hcs' put
                unfold Oper.wp
                have hrun : (execOp a.eval o).run P w = .ok .skip (w.setRow A.block cur') := by
                  rcases hsize with hi | ⟨i, hi, hi2⟩
                  · unfold tySize at hn; rw [hi] at hn; cases hn
                  · simp [execOp, ho, hcv, Instr.storeAt, Instr.sureAddr, storeVar, sizeOf, typeInfo, hi, hi2, hcl, hAo]
                    rw [hst]
                    rfl
                rw [hrun]
                rw [hsp] at hK'
                exact ⟨_, _, ρ, hK', hf.put_undef hd, g1, he.trans g2⟩
              · cases h
      | _ => simp [aStore] at h

end
end Go.Am
