/- The abstract layer, part 3: operations that neither write nor make memory: what they yield of an abstract state (aOp), and that this is so (aOp_sound). -/
import Derived.Test.YtdbneadblnejgaaAm2
namespace Go.Am
open Go.RowKit
set_option linter.unusedVariables false

/-! ### What is asked of the types: each a closed fact of a program -/
def tySize (P : Program) (t : TypeId) : Option Nat := (P.info? t).map (·.size)
def isAggD : TypeDesc → Bool | .struct _ | .array _ _ => true | _ => false
/-- size, and whether it is a struct or an array -/
def loadT (P : Program) (t : TypeId) : Option (Nat × Bool) := match P.info? t, P.underlying t with | some i, some d => some (i.size, isAggD d) | _, _ => none
def fieldOff (P : Program) (s f : Nat) : Option Nat :=
  match P.underlying s with
  | some (.struct fs) => match fs[f]? with
    | some fd => match P.info? fd.type with | some i => if i.size = 0 then none else some fd.offset | none => none
    | none => none
  | _ => none
/-- field of a struct value: where, how large, a struct or an array itself? -/
def fieldT (P : Program) (s f : Nat) : Option (Nat × Nat × Bool) :=
  match P.underlying s with
  | some (.struct fs) =>
    (match fs[f]? with
    | some fd => (match loadT P fd.type with | some (n, g) => some (fd.offset, n, g) | none => none)
    | none => none)
  | _ => none
def sliceT (P : Program) (t : TypeId) : Option (TypeId × Nat) := match P.underlying t with | some (.slice e) => (match P.info? e with | some i => some (e, i.size) | none => none) | _ => none
/-- an array's length, its elements' size, and whether they are structs or arrays -/
def arrT (P : Program) (t : TypeId) : Option (Nat × Nat × Bool) := match P.underlying t with | some (.array n e) => (match loadT P e with | some (k, g) => some (n, k, g) | none => none) | _ => none
def isStrT (P : Program) (t : TypeId) : Bool := match P.underlying t with | some .string => true | _ => false
def isBoolT (P : Program) (t : TypeId) : Bool := match P.underlying t with | some .bool => true | _ => false
def intT (P : Program) (t : TypeId) : Option IntKind := match P.underlying t with | some (.int k) => some k | _ => none

/-! ### What operations yield -/
def aPick : Option Value → Option Value → Option Value → Option Value
  | some (.bool true), a, _ => a
  | some (.bool false), _, b => b
  | _, _, _ => none
/-- the bits that two integers share -/
def bAnd (k : IntKind) (a b : Int) : Int := k.wrap ((BitVec.ofInt k.bits a &&& BitVec.ofInt k.bits b).toNat)
def aInt (op : BinOp) (k : IntKind) (a b : Int) : Option Value :=
  match op with
  | .add => some (.int k (k.wrap (a + b)))
  | .sub => some (.int k (k.wrap (a - b)))
  | .mul => some (.int k (k.wrap (a * b)))
  | .quo => if b = 0 then none else some (.int k (k.wrap (a.tdiv b)))
  | .rem => if b = 0 then none else some (.int k (a.tmod b))
  | .eql => some (.bool (decide (a = b)))
  | .neq => some (.bool (!decide (a = b)))
  | .lss => some (.bool (decide (a < b)))
  | .leq => some (.bool (decide (a ≤ b)))
  | .gtr => some (.bool (decide (b < a)))
  | .geq => some (.bool (decide (b ≤ a)))
  | .shr => if b < 0 then none else some (.int k (a.fdiv (2 ^ (min b.toNat k.bits))))
  | .and => some (.int k (bAnd k a b))
  | _ => none
def aStr (op : BinOp) (a b : ByteArray) : Option Value :=
  match op with
  | .add => if ((a.size + b.size : Nat) : Int) ≤ IntKind.i64.max then some (.string (a ++ b)) else none
  | .eql => some (.bool (a.toList == b.toList))
  | .neq => some (.bool (!(a.toList == b.toList)))
  | _ => none
/-- the fields of a struct of ints and truths: where, and whether it is a truth -/
def eqFieldsT (P : Program) : List Field → Option (List (Nat × Bool))
  | [] => some []
  | f :: fs => if f.name = "_" then none else
    match P.underlying f.type, eqFieldsT P fs with
    | some (.int _), some r => some ((f.offset, false) :: r)
    | some .bool, some r => some ((f.offset, true) :: r)
    | _, _ => none
def eqT (P : Program) (t : TypeId) : Option (List (Nat × Bool)) :=
  match P.underlying t with
  | some (.struct fs) => if P.stoodInHeld t = false ∧ P.eqGuardType P.depth t = false then eqFieldsT P fs.toList else none
  | _ => none
/-- are two structs alike? -/
def aEqs (xs ys : List Value) : List (Nat × Bool) → Option Bool
  | [] => some true
  | (o, b) :: os =>
    match xs[o]?, ys[o]?, aEqs xs ys os with
    | some (.int k m), some (.int k' n), some r => if b = false ∧ k = k' then some (decide (m = n) && r) else none
    | some (.bool p), some (.bool q), some r => if b = true then some (decide (p = q) && r) else none
    | _, _, _ => none
def aBin (P : Program) (op : BinOp) (t : TypeId) : Option Value → Option Value → Option Value
  | some (.agg a), some (.agg b) => match eqT P t with
    | some sh => (match aEqs a.toList b.toList sh with
      | some r => (match op with | .eql => some (.bool r) | .neq => some (.bool (!r)) | _ => none)
      | none => none)
    | none => none
  | some (.int k a), some (.int k' b) => if k = k' then aInt op k a b else none
  | some (.bool a), some (.bool b) => if isBoolT P t then (match op with | .eql => some (.bool (a == b)) | .neq => some (.bool (!(a == b))) | _ => none) else none
  | some (.string a), some (.string b) => aStr op a b
  | _, _ => none
def aUn (op : UnOp) : Option Value → Option Value
  | some (.bool b) => match op with | .not => some (.bool (!b)) | _ => none
  | some (.int k n) => match op with | .neg => some (.int k (k.wrap (0 - n))) | _ => none
  | _ => none
def aLoadV (lt : Option (Nat × Bool)) (H : Heap) : Option Value → Option Value
  | some (.pointer (some ad)) =>
    match lt with
    | some (n, true) => match aCells H ad n with | some l => some (.agg l.toArray) | none => none
    | some (_, false) => match aCells H ad 1 with | some [v] => some v | _ => none
    | none => none
  | _ => none
def aFieldAddr (k : Option Nat) : Option Value → Option Value
  | some (.pointer (some ad)) => match k with | some k => if ad.spot = none then some (.pointer (some ⟨ad.block, ad.off + k, none⟩)) else none | none => none
  | _ => none
def aIndexAddr (st : Option (TypeId × Nat)) (arr : Option (Nat × Nat × Bool)) : Option Value → Option Value → Option Value
  | some (.slice (some ad) n _), some (.int _ i) =>
    match st with
    | some (_, sz) => if ad.spot = none ∧ 0 ≤ i ∧ i < (n : Int) then some (.pointer (some ⟨ad.block, ad.off + i.toNat * sz, none⟩)) else none
    | none => none
  | some (.pointer (some ad)), some (.int _ i) =>
    match arr with
    | some (n, sz, _) => if ad.spot = none ∧ 0 ≤ i ∧ i < (n : Int) then some (.pointer (some ⟨ad.block, ad.off + i.toNat * sz, none⟩)) else none
    | none => none
  | _, _ => none
def aPart (cs : List Value) (off n : Nat) (g : Bool) : Option Value :=
  if off + n ≤ cs.length then (if g then some (.agg ((cs.drop off).take n).toArray) else match (cs.drop off).take 1 with | [v] => some v | _ => none) else none
def aField (ft : Option (Nat × Nat × Bool)) : Option Value → Option Value
  | some (.agg cs) => match ft with | some (off, n, g) => aPart cs.toList off n g | none => none
  | _ => none
def aIndex (P : Program) (t : TypeId) (arr : Option (Nat × Nat × Bool)) : Option Value → Option Value → Option Value
  | some (.agg cs), some (.int _ i) => match arr with | some (n, sz, g) => if 0 ≤ i ∧ i < (n : Int) then aPart cs.toList (i.toNat * sz) sz g else none | none => none
  | some (.string s), some (.int _ i) => if isStrT P t ∧ 0 ≤ i then (match s[i.toNat]? with | some b => some (.int .u8 b.toNat) | none => none) else none
  | _, _ => none
/-- a bound of 'x[lo:hi]': top: the greatest that it may be; d: what it is if it is left out -/
def aBound (top d : Nat) : Option (Option Value) → Option Nat
  | none => some d
  | some (some (.int _ h)) => if 0 ≤ h ∧ h ≤ (top : Int) then some h.toNat else none
  | _ => none
def aBounds (n : Nat) (lo hi : Option (Option Value)) : Option (Nat × Nat) :=
  match aBound n n hi with
  | none => none
  | some h => (match aBound h 0 lo with | none => none | some l => some (l, h))
def blkSz (H : Heap) (t : Nat) : Option Nat := match H.get t with | some b => some b.sz | none => none
def aSlice (P : Program) (H : Heap) (t : TypeId) (st : Option (TypeId × Nat)) (x : Option Value) (lo hi : Option (Option Value)) : Option Value :=
  match x with
  | some (.slice (some ad) n _) => match st, aBounds n lo hi with
    | some (_, sz), some (l, h) => if ad.spot = none ∧ (l = 0 ∨ blkSz H ad.block = some sz) then some (.slice (some ⟨ad.block, ad.off + l * sz, none⟩) (h - l) (h - l)) else none
    | _, _ => none
  | some (.string s) => match aBounds s.size lo hi with | some (l, h) => if isStrT P t then some (.string (s.extract l h)) else none | none => none
  | _ => none
def aExtract (i : Nat) : Option Value → Option Value
  | some (.tuple vs) => vs[i]?
  | _ => none
def aConv (P : Program) (src dst : TypeId) : Option Value → Option Value
  | some (.int _ n) => match P.underlying src, intT P dst with | some _, some k => some (.int k (k.wrap n)) | _, _ => none
  | some (.string s) => if isStrT P src && isStrT P dst then some (.string s) else none
  | _ => none
def aNil : Option Value → Option Value
  | some (.pointer (some ad)) => some (.pointer (some ad))
  | _ => none
def aLen (P : Program) (t : TypeId) : Option Value → Option Value
  | some (.slice _ n _) => if (sliceT P t).isSome then some (.int .i64 n) else none
  | some (.string s) => if isStrT P t then some (.int .i64 s.size) else none
  | _ => none
def aMin2 : Value → Value → Option Value
  | .int k x, .int _ y => some (.int k (if y < x then y else x))
  | _, _ => none
def aMax2 : Value → Value → Option Value
  | .int k x, .int _ y => some (.int k (if x < y then y else x))
  | _, _ => none
def aFold (f : Value → Value → Option Value) : Value → List (Option Value) → Option Value
  | v, [] => some v
  | v, some x :: r => match f v x with | some u => aFold f u r | none => none
  | _, none :: _ => none
def aFold1 (f : Value → Value → Option Value) : List (Option Value) → Option Value
  | some x :: r => aFold f x r
  | _ => none
def aBuiltin (P : Program) (b : Builtin) (ts : List TypeId) (vs : List (Option Value)) : Option Value :=
  match b with
  | .len => match ts, vs with | [t], [v] => aLen P t v | _, _ => none
  | .min => aFold1 aMin2 vs
  | .max => aFold1 aMax2 vs
  | _ => none
def aAll : List (Option Value) → Option (List Value)
  | [] => some []
  | some v :: r => match aAll r with | some l => some (v :: l) | none => none
  | none :: _ => none
def isPtr : Value → Bool | .pointer (some ad) => ad.spot.isNone | _ => false

def aOp (P : Program) (fr : Fr) (H : Heap) : Op → Option Value
  | .move x => aEv fr x
  | .assign x => aEv fr x
  | .pick c a b => aPick (aEv fr c) (aEv fr a) (aEv fr b)
  | .binOp op t x y _ => aBin P op t (aEv fr x) (aEv fr y)
  | .unOp op _ x => aUn op (aEv fr x)
  | .load t x => aLoadV (loadT P t) H (aEv fr x)
  | .fieldAddr s x f => aFieldAddr (fieldOff P s f) (aEv fr x)
  | .indexAddr t x i => aIndexAddr (sliceT P t) (arrT P t) (aEv fr x) (aEv fr i)
  | .field s x f => aField (fieldT P s f) (aEv fr x)
  | .index t x i => aIndex P t (arrT P t) (aEv fr x) (aEv fr i)
  | .slice t x lo hi none => aSlice P H t (sliceT P t) (aEv fr x) (lo.map (aEv fr)) (hi.map (aEv fr))
  | .extract x i => aExtract i (aEv fr x)
  | .convert s d x => aConv P s d (aEv fr x)
  | .nilCheck x => aNil (aEv fr x)
  | .makeFunc fn first captured =>
    if first.toList = [] then match aAll (captured.toList.map (aEv fr)) with | some l => if l.all isPtr then some (.func fn #[] l.toArray) else none | none => none else none
  | .call c => match c.callee with | .builtin b => aBuiltin P b c.argTypes.toList (c.args.toList.map (aEv fr)) | _ => none
  | _ => none

/-! ### That it is so -/
/-- the blocks that there were are as they were -/
def Kept (w w' : World) : Prop := ∀ k, k < w.heap.size → w'.heap[k]? = w.heap[k]?
def POp (P : Program) (op : Op) (ρ : Rho) (a : Act) (w : World) (v : Value) : Prop :=
  ∃ cv, SV ρ v cv ∧ ∀ (o : Oper) w', o.op = op → Kept w w' → (execOp a.eval o).run P w' = .ok (.value cv) w'

theorem cell_lt {w : World} {A : Addr} {v : Value} (h : w.cell? A = some v) : A.block < w.heap.size := by
  unfold World.cell? at h
  rcases Nat.lt_or_ge A.block w.heap.size with h' | h'
  · exact h'
  · rw [Array.getElem?_eq_none h'] at h; simp at h
theorem Kept.cell {w w' : World} (h : Kept w w') {A : Addr} {v : Value} (hc : w.cell? A = some v) : w'.cell? A = some v :=
  (World.cell?_of_block (w := w) (h _ (cell_lt hc))).trans hc

section
variable {P : Program} {ρ : Rho} {fr : Fr} {N : Nat} {a : Act} {H : Heap} {w : World} {v : Value}

theorem SV_bool {b : Bool} {cv : Value} (h : SV ρ (.bool b) cv) : cv = .bool b := (SV_flat rfl).1 h
theorem SV_int {k : IntKind} {n : Int} {cv : Value} (h : SV ρ (.int k n) cv) : cv = .int k n := (SV_flat rfl).1 h
theorem SV_string {s : ByteArray} {cv : Value} (h : SV ρ (.string s) cv) : cv = .string s := (SV_flat rfl).1 h
theorem SV_ptr {ad : Addr} {cv : Value} (h : SV ρ (.pointer (some ad)) cv) : ad.spot = none ∧ ∃ A cap sz, ρ ad.block = some (.real A cap sz) ∧ cv = .pointer (some (A.add ad.off)) := by
  obtain ⟨ad', A, cap, sz, e, e2, e3, e4⟩ := (show PR ρ _ cv from h)
  injection e with e; injection e with e; subst e
  exact ⟨e2, A, cap, sz, e3, e4⟩
theorem SV_ptr_mk {ad : Addr} {A : Addr} {cap sz : Nat} (h : ad.spot = none) (hr : ρ ad.block = some (.real A cap sz)) : SV ρ (.pointer (some ad)) (.pointer (some (A.add ad.off))) :=
  show PR ρ _ _ from ⟨ad, A, cap, sz, rfl, h, hr, rfl⟩
theorem SV_slice {ad : Addr} {n c : Nat} {cv : Value} (h : SV ρ (.slice (some ad) n c) cv) : SlR ρ ad n cv := h
theorem SV_agg {cs : Array Value} {cv : Value} (h : SV ρ (.agg cs) cv) : ∃ cs', cv = .agg cs' ∧ L2 (CR ρ) cs.toList cs'.toList := h

theorem aCells_sound (hh : HR ρ H w) {ad A : Addr} {cap sz n : Nat} {l : List Value} (hr : ρ ad.block = some (.real A cap sz)) (h : aCells H ad n = some l) :
    ∃ cs : List Value, L2 (CR ρ) l cs ∧ l.length = n ∧ ∀ j cv, cs[j]? = some cv → w.cell? ((A.add ad.off).add j) = some cv := by
  unfold aCells at h
  split at h
  · split at h
    · rename_i b hb
      split at h
      · rename_i hle
        cases h
        obtain ⟨_, _, _, hc, _⟩ := hh.blk _ _ _ hb hr
        have key : ∀ (m : Nat) (xs : List Value) (off : Nat), xs.length = m → (∀ j v, xs[j]? = some v → ∃ cv, w.cell? (A.add (off + j)) = some cv ∧ CR ρ v cv) →
            ∃ cs : List Value, L2 (CR ρ) xs cs ∧ ∀ j cv, cs[j]? = some cv → w.cell? (A.add (off + j)) = some cv := by
          intro m
          induction m with
          | zero => intro xs off hx _; obtain rfl := List.eq_nil_of_length_eq_zero hx; exact ⟨[], trivial, fun j cv h => by simp at h⟩
          | succ m ih =>
            intro xs off hx hall
            cases xs with
            | nil => simp at hx
            | cons x xs =>
              obtain ⟨c0, g1, g2⟩ := hall 0 x (by simp)
              obtain ⟨cs, h1, h2⟩ := ih xs (off + 1) (by simpa using hx) (fun j v hv => by
                obtain ⟨cv, k1, k2⟩ := hall (j + 1) v (by simpa using hv)
                exact ⟨cv, by rw [show off + 1 + j = off + (j + 1) by omega]; exact k1, k2⟩)
              refine ⟨c0 :: cs, ⟨g2, h1⟩, fun j cv hj => ?_⟩
              cases j with
              | zero => simp at hj; subst hj; exact g1
              | succ j => rw [show off + (j + 1) = off + 1 + j by omega]; exact h2 j cv (by simpa using hj)
        obtain ⟨cs, h1, h2⟩ := key _ ((b.xs.drop ad.off).take n) ad.off rfl (fun j v hv => by
          rw [List.getElem?_take] at hv
          split at hv
          · rw [List.getElem?_drop] at hv
            exact hc _ _ hv
          · cases hv)
        refine ⟨cs, h1, by simp; omega, fun j cv hj => ?_⟩
        rw [add_add]
        exact h2 j cv hj
      · cases h
    · cases h
  · cases h

theorem run_loadCells_kept {w' : World} (hk : Kept w w') {A : Addr} {cs : List Value} (h : ∀ j cv, cs[j]? = some cv → w.cell? (A.add j) = some cv) :
    (loadCells A cs.length).run P w' = .ok cs.toArray w' :=
  run_loadCells_list (P := P) w' A cs fun j v hv => hk.cell (h j v hv)

theorem isAgg_run {t : TypeId} {n : Nat} {g : Bool} (h : loadT P t = some (n, g)) (w : World) : (isAgg t).run P w = .ok g w ∧ (sizeOf t).run P w = .ok n w := by
  unfold loadT at h
  split at h
  · rename_i i d hi hd
    cases h
    constructor
    · simp only [isAgg, Sem.run_bind, run_underlying hd, Result.andThen_ok]
      cases d <;> simp [isAggD]
    · simp [sizeOf, typeInfo, hi]
  · cases h

theorem aLoadV_sound (hh : HR ρ H w) {t : TypeId} {x : Operand} {u : Value} (hx : SV ρ u (a.eval x)) (h : aLoadV (loadT P t) H (some u) = some v) : POp P (.load t x) ρ a w v := by
  cases u with
  | pointer p => cases p with
    | none => cases h
    | some ad =>
      obtain ⟨hs, A, cap, sz, hr, hcv⟩ := SV_ptr hx
      simp only [aLoadV] at h
      cases hl : loadT P t with
      | none => rw [hl] at h; cases h
      | some ng =>
        obtain ⟨n, g⟩ := ng
        rw [hl] at h
        have hrun := isAgg_run hl
        cases g with
        | true =>
          simp only at h
          cases hc : aCells H ad n with
          | none => rw [hc] at h; cases h
          | some l =>
            rw [hc] at h
            cases h
            obtain ⟨cs, h1, h2, h3⟩ := aCells_sound hh hr hc
            refine ⟨.agg cs.toArray, ⟨_, rfl, by simpa using h1⟩, fun o w' ho hk => ?_⟩
            have hlen : cs.length = n := by rw [← h1.length, h2]
            have hlc := run_loadCells_kept (P := P) hk h3
            rw [hlen] at hlc
            simp [execOp, ho, hcv, Instr.loadAt, Instr.sureAddr, loadVar, (hrun w').1, (hrun w').2, hlc]
        | false =>
          simp only at h
          cases hc : aCells H ad 1 with
          | none => rw [hc] at h; cases h
          | some l =>
            rw [hc] at h
            obtain ⟨cs, h1, h2, h3⟩ := aCells_sound hh hr hc
            match l, h2, h with
            | [u], _, h =>
              cases h
              match cs, h1 with
              | [cu], h1 =>
                refine ⟨cu, SV.ofC h1.1, fun o w' ho hk => ?_⟩
                have hce := hk.cell (h3 0 cu rfl)
                rw [Addr.add_zero'] at hce
                simp [execOp, ho, hcv, Instr.loadAt, Instr.sureAddr, loadVar, (hrun w').1, hce]
  | _ => cases h

theorem aFieldAddr_sound {s f : Nat} {x : Operand} {u : Value} (hx : SV ρ u (a.eval x)) (h : aFieldAddr (fieldOff P s f) (some u) = some v) : POp P (.fieldAddr s x f) ρ a w v := by
  cases u with
  | pointer p => cases p with
    | none => cases h
    | some ad =>
      obtain ⟨hs, A, cap, sz, hr, hcv⟩ := SV_ptr hx
      simp only [aFieldAddr] at h
      cases hl : fieldOff P s f with
      | none => rw [hl] at h; cases h
      | some k =>
        rw [hl] at h
        simp only [hs, if_true] at h
        cases h
        refine ⟨.pointer (some ((A.add ad.off).add k)), ?_, fun o w' ho hk => ?_⟩
        · rw [add_add]; exact SV_ptr_mk (ad := ⟨ad.block, ad.off + k, none⟩) rfl hr
        · unfold fieldOff at hl
          split at hl
          · rename_i fs hu
            split at hl
            · rename_i fd hfd
              split at hl
              · rename_i i hi
                split at hl
                · cases hl
                · rename_i hne
                  cases hl
                  simp [execOp, ho, hcv, Instr.fieldAt, run_underlying hu, hfd, Instr.sureAddr, fieldPlace, sizeOf, typeInfo, hi, hne]
              · cases hl
            · cases hl
          · cases hl
  | _ => cases h

theorem aIndexAddr_sound {t : Nat} {x i : Operand} {u j : Value} (hx : SV ρ u (a.eval x)) (hi : SV ρ j (a.eval i)) (h : aIndexAddr (sliceT P t) (arrT P t) (some u) (some j) = some v) : POp P (.indexAddr t x i) ρ a w v := by
  cases j with
  | int kk i' =>
    have hj := SV_int hi
    cases u with
    | slice p n c => cases p with
      | none => cases h
      | some ad =>
        obtain ⟨hs, L, A', c', hr, hcv, hn, _, hor⟩ := SV_slice hx
        simp only [aIndexAddr] at h
        cases hl : sliceT P t with
        | none => rw [hl] at h; cases h
        | some ng =>
          obtain ⟨e, sz⟩ := ng
          rw [hl] at h
          simp only at h
          split at h
          · rename_i hb
            obtain ⟨_, h0, h1⟩ := hb
            cases h
            rcases hor with ⟨hz, _⟩ | ⟨A, cap, sz', rfl, rfl, hc⟩
            · omega
            · refine ⟨.pointer (some ((A.add ad.off).add (i'.toNat * sz))), ?_, fun o w' ho hk => ?_⟩
              · rw [add_add]; exact SV_ptr_mk (ad := ⟨ad.block, ad.off + i'.toNat * sz, none⟩) rfl hr
              · unfold sliceT at hl
                split at hl
                · rename_i e' hu
                  split at hl
                  · rename_i ii hii
                    cases hl
                    simp [execOp, ho, hcv, hj, Instr.indexAt, asIntOf, run_underlying hu, sizeOf, typeInfo, hii, h0, h1]
                  · cases hl
                · cases hl
          · cases h
    | pointer p => cases p with
      | none => cases h
      | some ad =>
        obtain ⟨hs, A, cap, sz, hr, hcv⟩ := SV_ptr hx
        simp only [aIndexAddr] at h
        cases hl : arrT P t with
        | none => rw [hl] at h; cases h
        | some ng =>
          obtain ⟨n, sz, g⟩ := ng
          rw [hl] at h
          simp only at h
          split at h
          · rename_i hb
            obtain ⟨_, h0, h1⟩ := hb
            cases h
            refine ⟨.pointer (some ((A.add ad.off).add (i'.toNat * sz))), ?_, fun o w' ho hk => ?_⟩
            · rw [add_add]; exact SV_ptr_mk (ad := ⟨ad.block, ad.off + i'.toNat * sz, none⟩) rfl hr
            · unfold arrT at hl
              split at hl
              · rename_i n' e' hu
                split at hl
                · rename_i k g' hii
                  cases hl
                  have hsz := (isAgg_run hii w').2
                  simp [execOp, ho, hcv, hj, Instr.indexAt, asIntOf, Instr.sureAddr, run_underlying hu, hsz, h0, h1]
                · cases hl
              · cases hl
          · cases h
    | _ => cases h
  | _ => cases u <;> first | (cases h; done) | (rename_i p; cases p <;> cases h) | (rename_i p _ _; cases p <;> cases h)

theorem part_sound {cs cs' : Array Value} (hl : L2 (CR ρ) cs.toList cs'.toList) {e off n : Nat} {g : Bool} (he : loadT P e = some (n, g)) (h : aPart cs.toList off n g = some v) :
    ∃ cv, SV ρ v cv ∧ ∀ w', (part e cs' off).run P w' = .ok cv w' := by
  have hlen := hl.length
  simp only [Array.length_toList] at hlen
  unfold aPart at h
  split at h
  · rename_i hle
    simp only [Array.length_toList] at hle
    cases g with
    | true =>
      simp only [if_true] at h
      cases h
      refine ⟨.agg (cs'.extract off (off + n)), ⟨_, rfl, ?_⟩, fun w' => ?_⟩
      · have := (hl.drop off).take n
        simpa [Array.toList_extract, List.extract_eq_take_drop] using this
      · simp [part, (isAgg_run he w').1, (isAgg_run he w').2]
    | false =>
      simp only [Bool.false_eq_true, if_false] at h
      have hd := (hl.drop off).take 1
      match hm : (cs.toList.drop off).take 1, hm' : (cs'.toList.drop off).take 1, h with
      | [u], [cu], h =>
        cases h
        rw [hm, hm'] at hd
        have hget : cs'[off]? = some cu := by
          have : ((cs'.toList.drop off).take 1)[0]? = some cu := by rw [hm']; rfl
          simpa [List.getElem?_take, List.getElem?_drop] using this
        exact ⟨cu, SV.ofC hd.1, fun w' => by simp [part, (isAgg_run he w').1, hget]⟩
      | [u], [], h => rw [hm, hm'] at hd; exact hd.elim
      | [u], _ :: _ :: _, h => rw [hm, hm'] at hd; exact hd.2.elim
  · cases h

end
end Go.Am
