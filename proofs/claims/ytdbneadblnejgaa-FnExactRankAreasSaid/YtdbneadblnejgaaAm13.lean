/- The abstract layer, part 13: regions that draw their order, whose operations make memory or write to it. -/
import Derived.Test.YtdbneadblnejgaaAm11
import Derived.OrdersHeld
namespace Go.Am
open Go.RowKit
set_option linter.unusedVariables false

/-- the blocks of Hf stand in H as they do in Hf -/
structure SubH (Hf H : Heap) : Prop where
  le : Hf.length ≤ H.length
  sub : ∀ t b, Hf.get t = some b → ∃ b', H.get t = some b' ∧ b'.xs = b.xs ∧ b'.sz = b.sz
def cut (ρ : Rho) (n : Nat) : Rho := fun t => if t < n then ρ t else none
/-- the same blocks, with nothing in them -/
def emp (H : Heap) : Heap := H.map fun b => b.map fun b => { b with xs := [], own := false }

section
variable {P : Program} {N : Nat} {H0 Hf H : Heap} {o : Oper} {fr : Fr} {ρ : Rho} {a : Act} {w : World} {ops : Array Oper}

theorem emp_get {t : Nat} : Heap.get (emp H) t = (H.get t).map fun b => { b with xs := [], own := false } := by
  unfold Heap.get emp
  rw [List.getElem?_map]
  cases H[t]? with
  | none => rfl
  | some b => cases b <;> rfl
theorem emp_length : (emp H).length = H.length := by simp [emp]
theorem cut_lt {t n : Nat} (h : t < n) : cut ρ n t = ρ t := by simp [cut, h]
theorem BlkR.emp {b : Blk} {L : Loc} {w' : World} (h : BlkR ρ b w L) : BlkR ρ { b with xs := [], own := false } w' L := by
  cases L with
  | virt => rfl
  | real A cap sz => exact ⟨h.1, h.2.1, Nat.zero_le _, fun j v hv => by simp at hv, fun h => by cases h⟩
theorem HR.emp (h : HR ρ H w) (w' : World) : HR ρ (emp H) w' := by
  refine ⟨fun t => by rw [h.dom t, emp_length], fun t b L hb hL => ?_, fun t t' b b' A cap sz A' cap' sz' _ hb _ ho => ?_⟩
  · rw [emp_get] at hb
    cases hb0 : H.get t with
    | none => rw [hb0] at hb; cases hb
    | some b0 => rw [hb0] at hb; cases hb; exact (h.blk t b0 L hb0 hL).emp
  · rw [emp_get] at hb
    cases hb0 : H.get t with
    | none => rw [hb0] at hb; cases hb
    | some b0 => rw [hb0] at hb; cases hb; cases ho
/-- blocks with nothing in them -/
def isEmp (E : Heap) : Prop := ∀ t b, Heap.get E t = some b → b.xs = [] ∧ b.own = false
theorem isEmp_drop (n : Nat) : isEmp ((emp H).drop n) := by
  intro t b hb
  have : Heap.get ((Go.Am.emp H).drop n) t = Heap.get (Go.Am.emp H) (n + t) := by unfold Heap.get; rw [List.getElem?_drop]
  rw [this, emp_get] at hb
  cases hg : H.get (n + t) with
  | none => rw [hg] at hb; cases hb
  | some b0 => rw [hg] at hb; cases hb; exact ⟨rfl, rfl⟩
theorem frz_get {E : Heap} {t : Nat} {b : Blk} (hE : isEmp E) (h : Heap.get (roH Hf ++ E) t = some b) : b.own = false ∧ (b.xs = [] ∨ ∃ b0, Hf.get t = some b0 ∧ b.xs = b0.xs ∧ b.sz = b0.sz) := by
  rcases Nat.lt_or_ge t Hf.length with ht | ht
  · rw [Heap.get_append_left (by rw [roH_length]; exact ht), roH_get] at h
    cases hf : Hf.get t with
    | none => rw [hf] at h; cases h
    | some b0 => rw [hf] at h; cases h; exact ⟨rfl, .inr ⟨b0, rfl, rfl, rfl⟩⟩
  · obtain ⟨j, rfl⟩ : ∃ j, t = (roH Hf).length + j := ⟨t - Hf.length, by rw [roH_length]; omega⟩
    rw [Heap.get_append_right] at h
    have := hE j b h
    exact ⟨this.2, .inl this.1⟩
theorem frz_noOwn {E : Heap} (hE : isEmp E) (t : Nat) (b : Blk) (h : Heap.get (roH Hf ++ E) t = some b) : b.own = false := (frz_get hE h).1
/-- new tags, as blocks with nothing in them -/
theorem HR.grow {ρS : Rho} {HS : Heap} {w' : World} (hS : HR ρS HS w') (hle : ρS.le ρ) (hno : ∀ t b, HS.get t = some b → b.own = false) (hh : HR ρ H w) : HR ρ (HS ++ (Go.Am.emp H).drop HS.length) w' := by
  have hlen : HS.length ≤ H.length := by
    rcases Nat.lt_or_ge H.length HS.length with h | h
    · obtain ⟨L, hL⟩ := hS.some_of h
      have h1 := hle _ _ hL
      have h2 := (hh.dom H.length).2 (Nat.le_refl _)
      rw [h2] at h1; cases h1
    · exact h
  refine ⟨fun t => by rw [hh.dom t, List.length_append, List.length_drop, emp_length]; omega, fun t b L hb hL => ?_, fun t t' b b' A cap sz A' cap' sz' _ hb _ ho => ?_⟩
  · rcases Nat.lt_or_ge t HS.length with ht | ht
    · rw [Heap.get_append_left ht] at hb
      obtain ⟨L', hL'⟩ := hS.some_of ht
      have h1 := hle _ _ hL'
      rw [hL] at h1; cases h1
      exact (hS.blk t b L hb hL').mono hle fun _ _ _ _ _ => rfl
    · obtain ⟨j, rfl⟩ : ∃ j, t = HS.length + j := ⟨t - HS.length, by omega⟩
      rw [Heap.get_append_right] at hb
      have : Heap.get ((Go.Am.emp H).drop HS.length) j = Heap.get (Go.Am.emp H) (HS.length + j) := by unfold Heap.get; rw [List.getElem?_drop]
      rw [this] at hb
      exact (hh.emp w').blk _ b L hb hL
  · rcases Nat.lt_or_ge t HS.length with ht | ht
    · rw [Heap.get_append_left ht] at hb
      rw [hno t b hb] at ho; cases ho
    · obtain ⟨j, rfl⟩ : ∃ j, t = HS.length + j := ⟨t - HS.length, by omega⟩
      rw [Heap.get_append_right] at hb
      rw [(isEmp_drop _ j b hb).2] at ho; cases ho
theorem PR.back {ρS : Rho} (hle : ρS.le ρ) {v c0 c : Value} (h1 : PR ρS v c0) (h2 : PR ρ v c) : PR ρS v c := by
  obtain ⟨ad, A, cap, sz, rfl, a1, a2, a3⟩ := h1
  obtain ⟨ad', A', cap', sz', e, b1, b2, b3⟩ := h2
  cases e
  have := hle _ _ a2
  rw [b2] at this; cases this
  exact ⟨ad, A, cap, sz, rfl, a1, a2, b3⟩
theorem L2.back {α β : Type} {R S T : α → β → Prop} (h : ∀ x y z, R x y → S x z → T x z) : ∀ {xs : List α} {ys zs : List β}, L2 R xs ys → L2 S xs zs → L2 T xs zs
  | [], [], [], _, _ => trivial
  | x :: xs, y :: ys, z :: zs, h1, h2 => ⟨h _ _ _ h1.1 h2.1, L2.back h h1.2 h2.2⟩
  | [], _ :: _, _, h1, _ => h1.elim
  | _ :: _, [], _, h1, _ => h1.elim
  | [], _, _ :: _, _, h2 => h2.elim
  | _ :: _, _, [], _, h2 => h2.elim
theorem CR.back {ρS : Rho} (hle : ρS.le ρ) {v c0 c : Value} (h1 : CR ρS v c0) (h2 : CR ρ v c) : CR ρS v c := by
  cases v with
  | pointer a => cases a with
    | none => exact h2
    | some ad => exact PR.back hle h1 h2
  | slice a n k => cases a with
    | none => exact h2
    | some ad =>
      obtain ⟨a1, L, A0, c0', a2, _⟩ := h1
      obtain ⟨b1, L', A', c', b2, b3⟩ := h2
      have := hle _ _ a2
      rw [b2] at this; cases this
      exact ⟨b1, L, A', c', a2, b3⟩
  | func fn first cap =>
    obtain ⟨cap0, rfl, a1, a2⟩ := h1
    obtain ⟨cap', rfl, b1, b2⟩ := h2
    exact ⟨cap', rfl, b1, L2.back (R := PR ρS) (S := PR ρ) (T := PR ρS) (fun _ _ _ => PR.back hle) a2 b2⟩
  | agg _ => exact h2.elim
  | tuple _ => exact h2.elim
  | _ => exact h2
/-- behind an operation, what is frozen stands as it stood -/
theorem SubH.keep {ρS ρ' : Rho} {E H' : Heap} {w' : World} (hs : SubH Hf H') (hE : isEmp E) (hS : HR ρS (roH Hf ++ E) w) (hle : ρS.le ρ') (hh : HR ρ' H' w') : HR ρS (roH Hf ++ E) w' := by
  refine ⟨hS.dom, fun t b L hb hL => ?_, fun t t' b b' A cap sz A' cap' sz' _ hb _ ho => ?_⟩
  · have old := hS.blk t b L hb hL
    obtain ⟨g0, g⟩ := frz_get hE hb
    rcases g with g | ⟨b0, g1, g2, g3⟩
    · cases L with
      | virt => exact g
      | real A cap sz => exact ⟨old.1, old.2.1, old.2.2.1, fun j v hv => by rw [g] at hv; simp at hv, fun h => by rw [g0] at h; cases h⟩
    · obtain ⟨b', k1, k2, k3⟩ := hs.sub t b0 g1
      have new := hh.blk t b' L k1 (hle _ _ hL)
      cases L with
      | virt => exact old
      | real A cap sz =>
        refine ⟨old.1, old.2.1, old.2.2.1, fun j v hv => ?_, fun h => by rw [g0] at h; cases h⟩
        obtain ⟨c0, _, c1⟩ := old.2.2.2.1 j v hv
        obtain ⟨c, d0, d1⟩ := new.2.2.2.1 j v (by rw [k2, ← g2]; exact hv)
        exact ⟨c, d0, CR.back hle c1 d1⟩
  · rw [frz_noOwn hE t b hb] at ho; cases ho
theorem SubH.begin (hs : SubH Hf H) (h : HR ρ H w) : HR ρ (roH Hf ++ (emp H).drop Hf.length) w := by
  have hle := hs.le
  refine ⟨fun t => by rw [h.dom t, List.length_append, roH_length, List.length_drop, emp_length]; omega, fun t b L hb hL => ?_, fun t t' b b' A cap sz A' cap' sz' _ hb _ ho => ?_⟩
  · rcases Nat.lt_or_ge t Hf.length with ht | ht
    · rw [Heap.get_append_left (by rw [roH_length]; exact ht), roH_get] at hb
      cases hf : Hf.get t with
      | none => rw [hf] at hb; cases hb
      | some b0 =>
        rw [hf] at hb; cases hb
        obtain ⟨b', h1, h2, h3⟩ := hs.sub t b0 hf
        have hk := h.blk t b' L h1 hL
        cases L with
        | virt => exact h2.symm.trans hk
        | real A cap sz => exact ⟨hk.1, hk.2.1.trans h3, by simp only; rw [← h2]; exact hk.2.2.1, by simp only; rw [← h2]; exact hk.2.2.2.1, fun h => by cases h⟩
    · obtain ⟨j, rfl⟩ : ∃ j, t = (roH Hf).length + j := ⟨t - Hf.length, by rw [roH_length]; omega⟩
      rw [Heap.get_append_right] at hb
      have : Heap.get ((Go.Am.emp H).drop Hf.length) j = Heap.get (Go.Am.emp H) (Hf.length + j) := by unfold Heap.get; rw [List.getElem?_drop]
      rw [this] at hb
      rw [roH_length] at hL
      exact (h.emp w).blk _ b L hb hL
  · rw [frz_noOwn (isEmp_drop _) t b hb] at ho; cases ho

/-! ### What an operation that is taken first looks at -/
theorem aLoadV_mono {H1 H2 : Heap} (hle : ∀ t b, H1.get t = some b → ∃ b', H2.get t = some b' ∧ b'.xs = b.xs) {lt : Option (Nat × Bool)} {x : Option Value} {v : Value} (h : aLoadV lt H1 x = some v) : aLoadV lt H2 x = some v := by
  have hc : ∀ {ad n l}, aCells H1 ad n = some l → aCells H2 ad n = some l := by
    intro ad n l h
    unfold aCells at h ⊢
    split at h
    · rename_i hs
      rw [if_pos hs]
      cases hg : H1.get ad.block with
      | none => rw [hg] at h; cases h
      | some b =>
        obtain ⟨b', h1, h2⟩ := hle _ _ hg
        rw [hg] at h
        rw [h1]
        simp only [h2]; exact h
    · cases h
  unfold aLoadV at h ⊢
  split at h
  · rename_i ad
    split at h
    · rename_i n
      cases hg : aCells H1 ad n with
      | none => rw [hg] at h; cases h
      | some l => rw [hg] at h; simp only [hc hg]; exact h
    · rename_i n
      cases hg : aCells H1 ad 1 with
      | none => rw [hg] at h; cases h
      | some l => rw [hg] at h; simp only [hc hg]; exact h
    · cases h
  · cases h
def isLoad : Op → Bool | .load _ _ => true | _ => false
theorem aOp_sz {H1 H2 : Heap} (hle : ∀ t s, blkSz H1 t = some s → blkSz H2 t = some s) {op : Op} (hl : isLoad op = false) {v : Value} (h : aOp P fr H1 op = some v) : aOp P fr H2 op = some v := by
  cases op with
  | load t x => cases hl
  | slice t x lo hi m =>
    cases m with
    | some _ => exact h
    | none =>
      simp only [aOp] at h ⊢
      unfold aSlice at h ⊢
      split at h
      · split at h
        · split at h
          · rename_i hc
            rw [if_pos ⟨hc.1, hc.2.imp id (hle _ _)⟩]; exact h
          · cases h
        · cases h
      · exact h
      · cases h
  | _ => exact h

/-! ### The judgement -/
def PostN (ρ0 : Rho) (H0 : Heap) (w0 : World) (N : Nat) (Q : APost) : Exit → Act → World → Prop
  | .normal => Post ρ0 H0 w0 N Q .normal
  | _ => fun _ _ => False
structure AAny (P : Program) (N : Nat) (H0 : Heap) (ops : Array Oper) (Q : APost) (Hf : Heap) (fuel : Nat) (listed : Array Bool) (fr : Fr) (H : Heap) (tok : Tok (P, N, H0, ops, Q, Hf, fuel, listed)) : Prop where
  wp : SubH Hf H → ∀ ρ0 w0 ρS E ρ a w, HG P ρ0 H0 w0 → Ext ρ0 H0 w0 ρ H w → FrR ρ fr N a → HR ρ H w → ρS.le ρ → isEmp E → HR ρS (roH Hf ++ E) w →
    wpAnyH P .any ops (PostN ρ0 H0 w0 N Q) (fun w' => HR ρS (roH Hf ++ E) w') fuel listed a w
def kAny (P : Program) (N : Nat) (H0 : Heap) (ops : Array Oper) (Q : APost) (Hf : Heap) (fuel : Nat) (listed : Array Bool) (H : Heap) (fr : Fr) : Prop := AAny P N H0 ops Q Hf fuel listed fr H .mk
/-- the state behind an operation -/
structure AAt (P : Program) (N : Nat) (H0 : Heap) (ops : Array Oper) (Q : APost) (Hf : Heap) (fuel : Nat) (listed : Array Bool) (fr : Fr) (H : Heap) (tok : Tok (P, N, H0, ops, Q, Hf, fuel, listed)) : Prop where
  sub : SubH Hf H
  any : AAny P N H0 ops Q Hf fuel listed fr H .mk
def kAt (P : Program) (N : Nat) (H0 : Heap) (ops : Array Oper) (Q : APost) (Hf : Heap) (fuel : Nat) (listed : Array Bool) (fr : Fr) (H : Heap) : Prop := AAt P N H0 ops Q Hf fuel listed fr H .mk

theorem ADraw.any {id : Nat} {Q : APost} {tok : Tok (ops, Q)} (Hf : Heap) (hm : P.follows .mixedOrders = true) (hs : SubH Hf H)
    (h : AAny P N H0 ops Q Hf ops.size (Array.replicate ops.size false) fr H .mk) : ADraw P N H0 id ops Q fr H tok := by
  refine ⟨fun ρ0 w0 ρ a w h0 he hf hh => ?_⟩
  have hB : Below w.heap.size w { w with drawn := w.drawn + 1 } := ⟨rfl, rfl, rfl, Nat.le_refl _, fun _ _ => rfl⟩
  have hh' := hh.below hB
  refine wp_mono (wp_region_held hm (h.wp hs ρ0 w0 ρ _ ρ a _ h0 (he.below hB) hf hh' (fun _ _ h => h) (isEmp_drop _) (hs.begin hh'))) ?_
  intro e a' w' hp
  cases e with
  | normal => exact hp
  | _ => exact hp.elim

/-! ### Taking operations first -/
def onF (x : Option Value) (K : Value → Prop) (tok : Tok K) : Prop := match x with | some v => flat2 v = true ∧ K v | none => False
def vT1 (P : Program) (o : Oper) (Hf : Heap) (K : Fr → Prop) (fr : Fr) : Prop :=
  match o.op with
  | .load t x => onF (aLoadV (loadT P t) Hf (aEv fr x)) (kput1 K fr o.dst) .mk
  | .call c => (match c.callee with | .builtin b => onQ (aBuiltin P b c.argTypes.toList (c.args.toList.map (aEv fr))) (kput1 K fr o.dst) .mk | _ => False)
  | op => onQ (aOp P fr Hf op) (kput1 K fr o.dst) .mk
def vT2 (P : Program) (ops : Array Oper) (Hf : Heap) (o : Oper) (K : Fr → Prop) (fr : Fr) : Prop :=
  match o.guard with
  | none => vT1 P o Hf K fr
  | some (j, want) => vcGuard (slotV fr (slotOf ops j)) want (St1 (vT1 P o Hf K) .mk (Fr.put fr (slotOf ops j) (.bool want))) (St1 K .mk (Fr.put (Fr.put fr (slotOf ops j) (.bool !want)) o.dst undef)) (St1 K .mk (Fr.put fr o.dst undef)) .mk .mk .mk
def vT (P : Program) (ops : Array Oper) (Hf : Heap) : List Nat → (Fr → Prop) → Fr → Prop
  | [], K, fr => K fr
  | i :: l, K, fr => match ops[i]? with
    | none => False
    | some o => vT2 P ops Hf o (vT P ops Hf l K) fr
def takesOk (ops : Array Oper) : Array Bool → List Nat → Bool
  | _, [] => true
  | listed, i :: l => (Region.ready .any ops listed).contains i && Region.free .any ops listed i && takesOk ops (listed.setIfInBounds i true) l
def listAll (listed : Array Bool) (is : List Nat) : Array Bool := is.foldl (fun l i => l.setIfInBounds i true) listed

theorem PostN.panic {ρ0 : Rho} {w0 : World} {Q : APost} {d : Option Tmp} {v : Value} : ∀ c a w, PostN ρ0 H0 w0 N Q (.panic c) (a.put d v) w → PostN ρ0 H0 w0 N Q (.panic c) a w := fun _ _ _ h => h.elim

theorem vT1_sound {ρS : Rho} {E : Heap} {K : Fr → Prop} (hs : SubH Hf H) (hf : FrR ρ fr N a) (hh : HR ρ H w) (hle : ρS.le ρ) (hE : isEmp E) (hd : Fr.dstOk N o.dst = true) (h : vT1 P o Hf K fr) :
    ∃ cv fr', (∀ w', HR ρS (roH Hf ++ E) w' → (execOp a.eval o).run P w' = .ok (.value cv) w') ∧ K fr' ∧ FrR ρ fr' N (a.put o.dst cv) := by
  have free : ∀ {v}, isLoad o.op = false → aOp P fr Hf o.op = some v → K (fr.put o.dst v) → ∃ cv fr', (∀ w', HR ρS (roH Hf ++ E) w' → (execOp a.eval o).run P w' = .ok (.value cv) w') ∧ K fr' ∧ FrR ρ fr' N (a.put o.dst cv) := by
    intro v hl hv hk
    have hv' : aOp P fr (emp H) o.op = some v := aOp_sz (fun t s h => by
      unfold blkSz at h ⊢
      rw [emp_get]
      cases hg : Hf.get t with
      | none => rw [hg] at h; cases h
      | some b =>
        obtain ⟨b', k1, k2, k3⟩ := hs.sub t b hg
        rw [hg] at h; rw [k1]
        simp only [Option.map_some] at h ⊢
        rw [← h, k3]) hl hv
    obtain ⟨cv, h1, h2⟩ := aOp_sound hf (hh.emp { w with heap := #[] }) hv'
    exact ⟨cv, _, fun w' _ => h2 o w' rfl fun k hk => by simp at hk, hk, hf.put hd h1⟩
  unfold vT1 at h
  split at h
  · rename_i t x ho
    cases hv : aLoadV (loadT P t) Hf (aEv fr x) with
    | none => rw [hv] at h; exact h.elim
    | some v =>
      rw [hv] at h
      obtain ⟨hfl, hk⟩ := h
      refine ⟨v, _, fun w' hS => ?_, hk, hf.put hd ((SV_flat2 hfl).2 rfl)⟩
      have hg := hS.grow hle (frz_noOwn hE) hh
      have hv' : aOp P fr (roH Hf ++ E ++ (emp H).drop (roH Hf ++ E).length) o.op = some v := by
        rw [ho]
        simp only [aOp]
        refine aLoadV_mono (fun t b hb => ?_) hv
        have hlt := Heap.get_lt hb
        refine ⟨{ b with own := false }, ?_, rfl⟩
        rw [Heap.get_append_left (by simp [roH_length]; omega), Heap.get_append_left (by rw [roH_length]; exact hlt), roH_get, hb]
        rfl
      obtain ⟨cv, h1, h2⟩ := aOp_sound hf hg hv'
      rw [(SV_flat2 hfl).1 h1] at h2
      exact h2 o w' rfl fun _ _ => rfl
  · rename_i c ho
    split at h
    · rename_i b hc
      cases hv : aBuiltin P b c.argTypes.toList (c.args.toList.map (aEv fr)) with
      | none => rw [hv] at h; exact h.elim
      | some v =>
        rw [hv] at h
        exact free (by rw [ho]; rfl) (by rw [ho]; simp only [aOp, hc]; exact hv) h
    · exact h.elim
  · rename_i op hn1 hn2
    cases hv : aOp P fr Hf o.op with
    | none => rw [hv] at h; exact h.elim
    | some v =>
      rw [hv] at h
      refine free ?_ hv h
      cases ho : o.op with
      | load t x => exact absurd ho (hn1 t x)
      | _ => rfl

theorem vT2_sound {ρS : Rho} {E : Heap} {K : Fr → Prop} (hs : SubH Hf H) (hf : FrR ρ fr N a) (hh : HR ρ H w) (hle : ρS.le ρ) (hE : isEmp E) (hd : Fr.dstOk N o.dst = true) (h : vT2 P ops Hf o K fr) :
    ∃ cv fr', YieldsIf P ops (fun w' => HR ρS (roH Hf ++ E) w') o cv a ∧ K fr' ∧ FrR ρ fr' N (a.put o.dst cv) := by
  unfold vT2 at h
  cases hg : o.guard with
  | none =>
    rw [hg] at h
    obtain ⟨cv, fr', h1, h2, h3⟩ := vT1_sound hs hf hh hle hE hd h
    exact ⟨cv, fr', .inl ⟨by simp [Region.wanted, hg], h1⟩, h2, h3⟩
  | some jw =>
    obtain ⟨j, want⟩ := jw
    rw [hg] at h
    simp only at h
    cases hsl : slotOf ops j with
    | none => rw [hsl] at h; exact h.elim
    | some g =>
      rw [hsl] at h
      simp only [slotV] at h
      cases hv : fr.get g with
      | none => rw [hv] at h; exact h.elim
      | some v =>
        rw [hv] at h
        cases v with
        | bool b =>
          obtain ⟨h1, h2⟩ : (b = want → vT1 P o Hf K ((g, .bool want) :: fr)) ∧ (b = !want → K (Fr.put ((g, .bool !want) :: fr) o.dst undef)) := by
            simp only [vcGuard] at h
            cases want
            · exact ⟨fun e => h.no e, fun e => h.yes e⟩
            · exact ⟨fun e => h.yes e, fun e => h.no e⟩
          obtain ⟨y1, y2⟩ := yielded_of hf hsl hv
          by_cases hb : b = want
          · obtain ⟨cv, fr', k1, k2, k3⟩ := vT1_sound hs (hf.refine (t := g) (v := .bool want) (by rw [y2, hb]; rfl)) hh hle hE hd (h1 hb)
            exact ⟨cv, fr', .inl ⟨by simp [Region.wanted, hg, y1, hb], k1⟩, k2, k3⟩
          · have hb' : b = !want := by cases b <;> cases want <;> simp_all
            exact ⟨undef, _, .inr ⟨by simp [Region.wanted, hg, y1, hb], rfl⟩, h2 hb', (hf.refine (t := g) (v := .bool (!want)) (by rw [y2, hb']; rfl)).put_undef hd⟩
        | tuple x =>
          have y1 := yielded_none hf hsl hv
          exact ⟨undef, _, .inr ⟨by simp [Region.wanted, hg, y1], rfl⟩, h, hf.put_undef hd⟩
        | _ => exact h.elim

theorem AAny.takes {Q : APost} {fuel : Nat} (hsel : Region.noSelect ops = true) (hd : (ops.toList.all fun o => Fr.dstOk N o.dst) = true) : ∀ (is : List Nat) {fr : Fr} {listed : Array Bool} {f' : Nat} {tok : Tok (P, N, H0, ops, Q, Hf, f', listed)}, f' = is.length + fuel → takesOk ops listed is = true →
    vT P ops Hf is (kAny P N H0 ops Q Hf fuel (listAll listed is) H) fr → AAny P N H0 ops Q Hf f' listed fr H tok
  | [], fr, listed, f', tok, hfu, _, h => by
    obtain rfl : f' = fuel := by simpa using hfu
    exact ⟨AAny.wp h⟩
  | i :: l, fr, listed, f', tok, hfu, hok, h => by
    simp only [takesOk, Bool.and_eq_true] at hok
    obtain ⟨⟨hr, hfree⟩, hok'⟩ := hok
    obtain rfl : f' = (l.length + fuel) + 1 := by rw [hfu, List.length_cons]; omega
    refine ⟨fun hs ρ0 w0 ρS E ρ a w h0 he hf hh hle hE hS => ?_⟩
    simp only [vT] at h
    cases ho : ops[i]? with
    | none => rw [ho] at h; exact h.elim
    | some o =>
      rw [ho] at h
      have hdo : Fr.dstOk N o.dst = true := List.all_eq_true.1 hd o (by simpa using Array.mem_of_getElem? ho)
      obtain ⟨cv, fr', hy, hk, hf'⟩ := vT2_sound hs hf hh hle hE hdo h
      exact wpAnyH_take ho hsel hfree hr PostN.panic hy hS ((AAny.takes hsel hd l (tok := .mk) rfl hok' hk).wp hs ρ0 w0 ρS E ρ _ w h0 he hf' hh hle hE hS)

/-! ### Running operations -/
def vA (P : Program) (ops : Array Oper) (o : Oper) (K : Fr → Heap → Prop) (fr : Fr) (H : Heap) : Prop :=
  match o.guard with
  | none => vcOp P o K fr H
  | some (j, want) => vcGuard (slotV fr (slotOf ops j)) want (St (vcOp P o K) .mk (Fr.put fr (slotOf ops j) (.bool want)) H) (St K .mk (Fr.put (Fr.put fr (slotOf ops j) (.bool !want)) o.dst undef) H) (St K .mk (Fr.put fr o.dst undef) H) .mk .mk .mk
def vAt (P : Program) (ops : Array Oper) (i : Nat) (K : Fr → Heap → Prop) (fr : Fr) (H : Heap) : Prop := match ops[i]? with | some o => vA P ops o K fr H | none => False

theorem vA_sound {ρ0 : Rho} {w0 : World} {K : Fr → Heap → Prop} {i : Nat} {Q : Exit → Act → World → Prop} (hi : ops[i]? = some o) (hd : Fr.dstOk N o.dst = true) (h : vA P ops o K fr H) (hf : FrR ρ fr N a) (hg : HG P ρ H w) :
    wpOp P ops Q i (fun a' w' => ∃ fr' H' ρ', K fr' H' ∧ FrR ρ' fr' N a' ∧ HR ρ' H' w' ∧ Ext ρ H w ρ' H' w') a w := by
  have hh := hg.toHR
  have run : ∀ {fr}, vcOp P o K fr H → FrR ρ fr N a → o.wp P a w (fun a' w' => ∃ fr' H' ρ', K fr' H' ∧ FrR ρ' fr' N a' ∧ HR ρ' H' w' ∧ Ext ρ H w ρ' H' w') Q := by
    intro fr h hf
    refine Oper.wp_mono ?_ (vcOp_sound (H0 := H) hd h ρ w ρ a w hg (Ext.refl _ _ _) hf hh Q)
    rintro a' w' ⟨fr', H', ρ', k1, k2, k3, k4⟩
    exact ⟨fr', H', ρ', k1, k2, k3, k4⟩
  unfold wpOp
  simp only [hi]
  unfold vA at h
  cases hg : o.guard with
  | none =>
    rw [hg] at h
    rw [if_pos (by simp [Region.wanted, hg])]
    exact .inl (run h hf)
  | some jw =>
    obtain ⟨j, want⟩ := jw
    rw [hg] at h
    simp only at h
    cases hsl : slotOf ops j with
    | none => rw [hsl] at h; exact h.elim
    | some g =>
      rw [hsl] at h
      simp only [slotV] at h
      cases hv : fr.get g with
      | none => rw [hv] at h; exact h.elim
      | some v =>
        rw [hv] at h
        cases v with
        | bool b =>
          obtain ⟨h1, h2⟩ : (b = want → vcOp P o K ((g, .bool want) :: fr) H) ∧ (b = !want → K (Fr.put ((g, .bool !want) :: fr) o.dst undef) H) := by
            simp only [vcGuard] at h
            cases want
            · exact ⟨fun e => h.no e, fun e => h.yes e⟩
            · exact ⟨fun e => h.yes e, fun e => h.no e⟩
          obtain ⟨y1, y2⟩ := yielded_of hf hsl hv
          by_cases hb : b = want
          · rw [if_pos (by simp [Region.wanted, hg, y1, hb])]
            exact .inl (run (h1 hb) (hf.refine (t := g) (v := .bool want) (by rw [y2, hb]; rfl)))
          · have hb' : b = !want := by cases b <;> cases want <;> simp_all
            rw [if_neg (by simp [Region.wanted, hg, y1, hb])]
            exact ⟨_, H, ρ, h2 hb', (hf.refine (t := g) (v := .bool (!want)) (by rw [y2, hb']; rfl)).put_undef hd, hh, Ext.refl _ _ _⟩
        | tuple x =>
          have y1 := yielded_none hf hsl hv
          rw [if_neg (by simp [Region.wanted, hg, y1])]
          exact ⟨_, H, ρ, h, hf.put_undef hd, hh, Ext.refl _ _ _⟩
        | _ => exact h.elim

theorem AAny.all {Q : APost} {fuel f' : Nat} {listed : Array Bool} {tok : Tok (P, N, H0, ops, Q, Hf, f', listed)} (rs : List Nat) (hfu : f' = fuel + 1) (hd : (ops.toList.all fun o => Fr.dstOk N o.dst) = true) (hr : Region.ready .any ops listed = rs) (hne : rs ≠ [])
    (h : ∀ i ∈ rs, vAt P ops i (kAt P N H0 ops Q Hf fuel (listed.setIfInBounds i true)) fr H) : AAny P N H0 ops Q Hf f' listed fr H tok := by
  subst hfu
  refine ⟨fun hs ρ0 w0 ρS E ρ a w h0 he hf hh hle hE hS => wpAnyH_all hr hne fun i hi => ?_⟩
  have h := h i hi
  unfold vAt at h
  cases ho : ops[i]? with
  | none => rw [ho] at h; exact h.elim
  | some o =>
    rw [ho] at h
    have hdo : Fr.dstOk N o.dst = true := List.all_eq_true.1 hd o (by simpa using Array.mem_of_getElem? ho)
    refine wpOp_mono ?_ (vA_sound (ρ0 := ρ0) (w0 := w0) ho hdo h hf (h0.ext he hh))
    rintro a' w' ⟨fr', H', ρ', hk, hf', hh', he'⟩
    have hle' : ρS.le ρ' := fun t L ht => he'.le hh t L (hle t L ht)
    have hS' := hk.sub.keep hE hS hle' hh'
    exact ⟨hS', hk.any.wp hk.sub ρ0 w0 ρS E ρ' a' w' h0 (he.trans he') hf' hh' hle' hE hS'⟩
theorem AAny.done {Q : APost} {f' : Nat} {listed : Array Bool} {tok : Tok (P, N, H0, ops, Q, Hf, f', listed)} (hr : Region.ready .any ops listed = []) (h : Q.now H fr) : AAny P N H0 ops Q Hf f' listed fr H tok :=
  ⟨fun hs ρ0 w0 ρS E ρ a w h0 he hf hh hle hE hS => wpAnyH_done hr ⟨fr, H, ρ, h, hf, hh, he⟩ _⟩
theorem AAt.of {Q : APost} {f' : Nat} {listed : Array Bool} {tok : Tok (P, N, H0, ops, Q, Hf, f', listed)} (h1 : SubH Hf H) (h2 : AAny P N H0 ops Q Hf f' listed fr H .mk) : AAt P N H0 ops Q Hf f' listed fr H tok := ⟨h1, h2⟩
end

/-! ### For simp -/
def vTo (P : Program) (ops : Array Oper) (Hf : Heap) (x : Option Oper) (l : List Nat) (K : Fr → Prop) (tok : Tok K) (fr : Fr) : Prop := match x with | none => False | some o => vT2 P ops Hf o (vT P ops Hf l K) fr
def vAo (P : Program) (ops : Array Oper) (x : Option Oper) (K : Fr → Heap → Prop) (tok : Tok K) (fr : Fr) (H : Heap) : Prop := match x with | some o => vA P ops o K fr H | none => False
section
variable {P : Program} {N : Nat} {H0 Hf H : Heap} {fr : Fr} {ops : Array Oper} {K : Fr → Heap → Prop} {K1 : Fr → Prop} {KV1 : Value → Prop} {d : Option Tmp} {ty : TypeId} {pos : String} {af : Array Edge} {gd : Option (Nat × Bool)} {tok : Tok K} {tok1 : Tok K1} {tokv : Tok KV1}
theorem vT_nil : vT P ops Hf [] K1 fr = K1 fr := rfl
theorem vT_cons {i : Nat} {l : List Nat} : vT P ops Hf (i :: l) K1 fr = vTo P ops Hf ops[i]? l K1 .mk fr := by
  simp only [vT, vTo]
theorem vTo_some {o : Oper} {l : List Nat} : vTo P ops Hf (some o) l K1 tok1 fr = vT2 P ops Hf o (vT P ops Hf l K1) fr := rfl
theorem vT2_plain {op : Op} : vT2 P ops Hf ⟨d, op, ty, pos, af, none⟩ K1 fr = vT1 P ⟨d, op, ty, pos, af, none⟩ Hf K1 fr := rfl
theorem vT2_guard {op : Op} {j : Nat} {want : Bool} : vT2 P ops Hf ⟨d, op, ty, pos, af, some (j, want)⟩ K1 fr = vcGuard (slotV fr (slotOf ops j)) want (St1 (vT1 P ⟨d, op, ty, pos, af, some (j, want)⟩ Hf K1) .mk (Fr.put fr (slotOf ops j) (.bool want))) (St1 K1 .mk (Fr.put (Fr.put fr (slotOf ops j) (.bool !want)) d undef)) (St1 K1 .mk (Fr.put fr d undef)) .mk .mk .mk := rfl
theorem vAt_eq {i : Nat} : vAt P ops i K fr H = vAo P ops ops[i]? K .mk fr H := rfl
theorem vAo_some {o : Oper} : vAo P ops (some o) K tok fr H = vA P ops o K fr H := rfl
theorem vA_plain {op : Op} : vA P ops ⟨d, op, ty, pos, af, none⟩ K fr H = vcOp P ⟨d, op, ty, pos, af, none⟩ K fr H := rfl
theorem vA_guard {op : Op} {j : Nat} {want : Bool} : vA P ops ⟨d, op, ty, pos, af, some (j, want)⟩ K fr H = vcGuard (slotV fr (slotOf ops j)) want (St (vcOp P ⟨d, op, ty, pos, af, some (j, want)⟩ K) .mk (Fr.put fr (slotOf ops j) (.bool want)) H) (St K .mk (Fr.put (Fr.put fr (slotOf ops j) (.bool !want)) d undef) H) (St K .mk (Fr.put fr d undef) H) .mk .mk .mk := rfl
theorem kAny_eq {Q : APost} {fuel : Nat} {listed : Array Bool} : kAny P N H0 ops Q Hf fuel listed H fr = AAny P N H0 ops Q Hf fuel listed fr H .mk := rfl
theorem kAt_eq {Q : APost} {fuel : Nat} {listed : Array Bool} : kAt P N H0 ops Q Hf fuel listed fr H = AAt P N H0 ops Q Hf fuel listed fr H .mk := rfl
theorem onF_some {v : Value} : onF (some v) KV1 tokv = (flat2 v = true ∧ KV1 v) := rfl
theorem vT1_move {x : Operand} : vT1 P ⟨d, .move x, ty, pos, af, gd⟩ Hf K1 fr = onQ (aEv fr x) (kput1 K1 fr d) .mk := rfl
theorem vT1_assign {x : Operand} : vT1 P ⟨d, .assign x, ty, pos, af, gd⟩ Hf K1 fr = onQ (aEv fr x) (kput1 K1 fr d) .mk := rfl
theorem vT1_pick {c a b : Operand} : vT1 P ⟨d, .pick c a b, ty, pos, af, gd⟩ Hf K1 fr = onQ (aPick (aEv fr c) (aEv fr a) (aEv fr b)) (kput1 K1 fr d) .mk := rfl
theorem vT1_binOp {op : BinOp} {t t' : TypeId} {x y : Operand} : vT1 P ⟨d, .binOp op t x y t', ty, pos, af, gd⟩ Hf K1 fr = onQ (aBin P op t (aEv fr x) (aEv fr y)) (kput1 K1 fr d) .mk := rfl
theorem vT1_unOp {op : UnOp} {t : TypeId} {x : Operand} : vT1 P ⟨d, .unOp op t x, ty, pos, af, gd⟩ Hf K1 fr = onQ (aUn op (aEv fr x)) (kput1 K1 fr d) .mk := rfl
theorem vT1_load {t : TypeId} {x : Operand} : vT1 P ⟨d, .load t x, ty, pos, af, gd⟩ Hf K1 fr = onF (aLoadV (loadT P t) Hf (aEv fr x)) (kput1 K1 fr d) .mk := rfl
theorem vT1_fieldAddr {t f : Nat} {x : Operand} : vT1 P ⟨d, .fieldAddr t x f, ty, pos, af, gd⟩ Hf K1 fr = onQ (aFieldAddr (fieldOff P t f) (aEv fr x)) (kput1 K1 fr d) .mk := rfl
theorem vT1_indexAddr {t : TypeId} {x i : Operand} : vT1 P ⟨d, .indexAddr t x i, ty, pos, af, gd⟩ Hf K1 fr = onQ (aIndexAddr (sliceT P t) (arrT P t) (aEv fr x) (aEv fr i)) (kput1 K1 fr d) .mk := rfl
theorem vT1_field {t f : Nat} {x : Operand} : vT1 P ⟨d, .field t x f, ty, pos, af, gd⟩ Hf K1 fr = onQ (aField (fieldT P t f) (aEv fr x)) (kput1 K1 fr d) .mk := rfl
theorem vT1_index {t : TypeId} {x i : Operand} : vT1 P ⟨d, .index t x i, ty, pos, af, gd⟩ Hf K1 fr = onQ (aIndex P t (arrT P t) (aEv fr x) (aEv fr i)) (kput1 K1 fr d) .mk := rfl
theorem vT1_slice {t : TypeId} {x : Operand} {lo hi : Option Operand} : vT1 P ⟨d, .slice t x lo hi none, ty, pos, af, gd⟩ Hf K1 fr = onQ (aSlice P Hf t (sliceT P t) (aEv fr x) (lo.map (aEv fr)) (hi.map (aEv fr))) (kput1 K1 fr d) .mk := rfl
theorem vT1_extract {x : Operand} {i : Nat} : vT1 P ⟨d, .extract x i, ty, pos, af, gd⟩ Hf K1 fr = onQ (aExtract i (aEv fr x)) (kput1 K1 fr d) .mk := rfl
theorem vT1_convert {s t : TypeId} {x : Operand} : vT1 P ⟨d, .convert s t x, ty, pos, af, gd⟩ Hf K1 fr = onQ (aConv P s t (aEv fr x)) (kput1 K1 fr d) .mk := rfl
theorem vT1_nilCheck {x : Operand} : vT1 P ⟨d, .nilCheck x, ty, pos, af, gd⟩ Hf K1 fr = onQ (aNil (aEv fr x)) (kput1 K1 fr d) .mk := rfl
theorem vT1_makeFunc {fn : Fn} {first captured : Array Operand} : vT1 P ⟨d, .makeFunc fn first captured, ty, pos, af, gd⟩ Hf K1 fr = onQ (aOp P fr Hf (.makeFunc fn first captured)) (kput1 K1 fr d) .mk := rfl
theorem vT1_builtin {b : Builtin} {args : Array Operand} {ts : Array TypeId} : vT1 P ⟨d, .call ⟨.builtin b, args, ts⟩, ty, pos, af, gd⟩ Hf K1 fr = onQ (aBuiltin P b ts.toList (args.toList.map (aEv fr))) (kput1 K1 fr d) .mk := rfl
theorem AAny.one {Q : APost} {f' : Nat} {listed : Array Bool} {tok' : Tok (P, N, H0, ops, Q, Hf, f', listed)} (fuel i : Nat) (hfu : f' = fuel + 1) (hd : (ops.toList.all fun o => Fr.dstOk N o.dst) = true) (hr : Region.ready .any ops listed = [i])
    (h : vAt P ops i (kAt P N H0 ops Q Hf fuel (listed.setIfInBounds i true)) fr H) : AAny P N H0 ops Q Hf f' listed fr H tok' :=
  AAny.all [i] hfu hd hr (by simp) fun j hj => by obtain rfl : j = i := by simpa using hj
                                                  exact h
theorem AAny.two {Q : APost} {f' : Nat} {listed : Array Bool} {tok' : Tok (P, N, H0, ops, Q, Hf, f', listed)} (fuel i j : Nat) (hfu : f' = fuel + 1) (hd : (ops.toList.all fun o => Fr.dstOk N o.dst) = true) (hr : Region.ready .any ops listed = [i, j])
    (h1 : vAt P ops i (kAt P N H0 ops Q Hf fuel (listed.setIfInBounds i true)) fr H) (h2 : vAt P ops j (kAt P N H0 ops Q Hf fuel (listed.setIfInBounds j true)) fr H) : AAny P N H0 ops Q Hf f' listed fr H tok' :=
  AAny.all [i, j] hfu hd hr (by simp) fun k hk => by
    rcases List.mem_cons.1 hk with rfl | hk
    · exact h1
    · obtain rfl : k = j := by simpa using hk
      exact h2
/-- all orders end in states that one state says less than -/
structure MidEnd (H0 : Heap) (fr1 : Fr) (H1 : Heap) (fr : Fr) (H : Heap) : Prop where
  weak : WeakS H0 fr1 H1 fr H
def midQ (H0 : Heap) (fr1 : Fr) (H1 : Heap) : APost
  | .normal, fr, H => MidEnd H0 fr1 H1 fr H
  | _, _, _ => False
theorem midQ_normal {fr1 : Fr} {H1 : Heap} : midQ H0 fr1 H1 .normal fr H = MidEnd H0 fr1 H1 fr H := rfl
theorem ADraw.mid {id : Nat} {Q : APost} {tok' : Tok (ops, Q)} (fr1 : Fr) (H1 : Heap) (h : ADraw P N H0 id ops (midQ H0 fr1 H1) fr H .mk) (hq : Q .normal fr1 H1) : ADraw P N H0 id ops Q fr H tok' := by
  refine ⟨fun ρ0 w0 ρ a w h0 he hf hh => wp_mono (h.wp ρ0 w0 ρ a w h0 he hf hh) ?_⟩
  rintro e a' w' ⟨fr', H', ρ', hq', hf', hh', he'⟩
  cases e with
  | normal =>
    obtain ⟨ρ'', h1, h2, h3⟩ := hq'.weak.sound h0.toHR he' hh' hf'
    exact ⟨fr1, H1, ρ'', hq, h3, h1, h2⟩
  | _ => exact hq'.elim
/-- another choice of what is frozen is not needed: it is made at the start -/
def subL : Heap → Heap → Prop
  | [], _ => True
  | none :: L, _ :: L' => subL L L'
  | some b :: L, some b' :: L' => (b'.xs = b.xs ∧ b'.sz = b.sz) ∧ subL L L'
  | _, _ => False
theorem subL_sub : ∀ {L L' : Heap}, subL L L' → SubH L L'
  | [], L', _ => ⟨by simp, fun t b h => by rw [Heap.get_nil] at h; cases h⟩
  | none :: L, [], h => h.elim
  | none :: L, x :: L', h => by
    have ih := subL_sub (L := L) (L' := L') h
    refine ⟨by simpa using ih.le, fun t b hb => ?_⟩
    cases t with
    | zero => rw [Heap.get_cons] at hb; simp at hb
    | succ t =>
      rw [Heap.get_cons, if_neg (by omega)] at hb
      rw [Heap.get_cons, if_neg (by omega)]
      exact ih.sub _ b hb
  | some c :: L, [], h => h.elim
  | some c :: L, none :: L', h => h.elim
  | some c :: L, some c' :: L', h => by
    have ih := subL_sub (L := L) (L' := L') h.2
    refine ⟨by simpa using ih.le, fun t b hb => ?_⟩
    cases t with
    | zero =>
      rw [Heap.get_cons, if_pos rfl] at hb; cases hb
      rw [Heap.get_cons, if_pos rfl]
      exact ⟨c', rfl, h.1⟩
    | succ t =>
      rw [Heap.get_cons, if_neg (by omega)] at hb
      rw [Heap.get_cons, if_neg (by omega)]
      exact ih.sub _ b hb
theorem SubH.refl : SubH H H := ⟨Nat.le_refl _, fun t b h => ⟨b, h, rfl, rfl⟩⟩
theorem SubH.app {L : Heap} : SubH H (H ++ L) := ⟨by simp, fun t b h => ⟨b, Heap.get_of h, rfl, rfl⟩⟩
theorem SubH.both {L L' : Heap} (h : subL L L') : SubH (H ++ L) (H ++ L') := by
  have ih := subL_sub h
  refine ⟨by simpa using ih.le, fun t b hb => ?_⟩
  rcases Nat.lt_or_ge t H.length with ht | ht
  · rw [Heap.get_append_left ht] at hb
    exact ⟨b, by rw [Heap.get_append_left ht]; exact hb, rfl, rfl⟩
  · obtain ⟨j, rfl⟩ : ∃ j, t = H.length + j := ⟨t - H.length, by omega⟩
    rw [Heap.get_append_right] at hb ⊢
    exact ih.sub j b hb
end
attribute [go_sem ↓] midQ_normal vT_nil vT2_plain vT2_guard vA_plain vA_guard kAny_eq kAt_eq vT_cons vAt_eq vT1_move vT1_assign vT1_pick vT1_binOp vT1_unOp vT1_load vT1_fieldAddr vT1_indexAddr vT1_field vT1_index vT1_slice vT1_extract vT1_convert vT1_nilCheck vT1_makeFunc vT1_builtin
attribute [go_sem] vTo_some vAo_some onF_some subL
end Go.Am
