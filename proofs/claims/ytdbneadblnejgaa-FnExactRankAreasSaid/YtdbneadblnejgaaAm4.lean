/- The abstract layer, part 4: the rest of aOp_sound. -/
import Derived.Test.YtdbneadblnejgaaAm3
import Derived.Laws.StructEq
import Derived.ChangeKeysEq
namespace Go.Am
open Go.RowKit
set_option linter.unusedVariables false
section
variable {P : Program} {ρ : Rho} {fr : Fr} {N : Nat} {a : Act} {H : Heap} {w : World} {v : Value}

theorem aField_sound {s f : Nat} {x : Operand} {u : Value} (hx : SV ρ u (a.eval x)) (h : aField (fieldT P s f) (some u) = some v) : POp P (.field s x f) ρ a w v := by
  cases u with
  | agg cs =>
    obtain ⟨cs', hcv, hl⟩ := SV_agg hx
    simp only [aField] at h
    cases hf : fieldT P s f with
    | none => rw [hf] at h; cases h
    | some ng =>
      obtain ⟨off, n, g⟩ := ng
      rw [hf] at h
      simp only at h
      unfold fieldT at hf
      split at hf
      · rename_i fs hu
        split at hf
        · rename_i fd hfd
          split at hf
          · rename_i n' g' hlt
            cases hf
            obtain ⟨cv, h1, h2⟩ := part_sound hl hlt h
            exact ⟨cv, h1, fun o w' ho hk => by simp [execOp, ho, hcv, Instr.field, run_underlying hu, hfd, asAgg, h2]⟩
          · cases hf
        · cases hf
      · cases hf
  | _ => cases h

theorem aIndex_sound {t : Nat} {x i : Operand} {u j : Value} (hx : SV ρ u (a.eval x)) (hi : SV ρ j (a.eval i)) (h : aIndex P t (arrT P t) (some u) (some j) = some v) : POp P (.index t x i) ρ a w v := by
  cases j with
  | int kk i' =>
    have hj := SV_int hi
    cases u with
    | agg cs =>
      obtain ⟨cs', hcv, hl⟩ := SV_agg hx
      simp only [aIndex] at h
      cases ha : arrT P t with
      | none => rw [ha] at h; cases h
      | some ng =>
        obtain ⟨n, sz, g⟩ := ng
        rw [ha] at h
        simp only at h
        split at h
        · rename_i hb
          obtain ⟨h0, h1⟩ := hb
          unfold arrT at ha
          split at ha
          · rename_i n' e' hu
            split at ha
            · rename_i k g' hii
              cases ha
              obtain ⟨cv, g1, g2⟩ := part_sound hl hii h
              have hsz := fun w' => (isAgg_run hii w').2
              exact ⟨cv, g1, fun o w' ho hk => by simp [execOp, ho, hcv, hj, Instr.index, asIntOf, run_underlying hu, h0, h1, hsz, g2]⟩
            · cases ha
          · cases ha
        · cases h
    | string s =>
      have hcv := SV_string hx
      simp only [aIndex] at h
      split at h
      · rename_i hb
        obtain ⟨hs, h0⟩ := hb
        split at h
        · rename_i b hbb
          cases h
          unfold isStrT at hs
          split at hs
          · rename_i hu
            exact ⟨_, (SV_flat rfl).2 rfl, fun o w' ho hk => by simp [execOp, ho, hcv, hj, Instr.index, asIntOf, run_underlying hu, h0, hbb]⟩
          · cases hs
        · cases h
      · cases h
    | _ => cases h
  | _ => cases u <;> cases h

theorem aBound_sound {top d c r : Nat} {x : Option Operand} {code : BoundsCode} (hf : FrR ρ fr N a) (h : aBound top d (x.map (aEv fr)) = some r) (hd : d ≤ top) (hc : top ≤ c) (w : World) :
    r ≤ top ∧ (match x.map a.eval with | some v => Instr.sliceBound v c code | none => (pure d : Sem Nat)).run P w = .ok r w := by
  cases x with
  | none => simp only [Option.map_none, aBound, Option.some.injEq] at h; subst h; exact ⟨hd, rfl⟩
  | some x =>
    simp only [Option.map_some] at h ⊢
    cases hx : aEv fr x with
    | none => rw [hx] at h; simp [aBound] at h
    | some u =>
      rw [hx] at h
      cases u with
      | int k i =>
        simp only [aBound] at h
        split at h
        · rename_i hb
          cases h
          refine ⟨by omega, ?_⟩
          rw [SV_int (aEv_sound hf hx)]
          exact run_sliceBound w k i c _ hb.1 (by omega)
        · cases h
      | _ => simp [aBound] at h
theorem aBounds_sound {n c : Nat} {lo hi : Option Operand} {w : World} {b : Bool} {l h : Nat} (hf : FrR ρ fr N a)
    (hh : aBounds n (lo.map (aEv fr)) (hi.map (aEv fr)) = some (l, h)) (hc : n ≤ c) :
    l ≤ h ∧ h ≤ n ∧ (Instr.sliceBounds b n c (lo.map a.eval) (hi.map a.eval) none).run P w = .ok (l, h, c) w := by
  unfold aBounds at hh
  split at hh
  · cases hh
  · rename_i h0 e1
    split at hh
    · cases hh
    · rename_i l0 e2
      cases hh
      obtain ⟨g1, g2⟩ := aBound_sound (P := P) (c := c) (code := if b then .sliceAcap else .sliceAlen) hf e1 (Nat.le_refl _) hc w
      obtain ⟨k1, k2⟩ := aBound_sound (P := P) (c := h) (code := .sliceB) hf e2 (Nat.zero_le _) (Nat.le_refl _) w
      refine ⟨k1, g1, ?_⟩
      unfold Instr.sliceBounds
      simp only [Sem.run_bind, Sem.run_pure, Result.andThen_ok]
      cases hi <;> cases lo <;> simp_all [Sem.run_bind]

/-- a slice of a slice, its bounds having been checked -/
theorem slice_core (hh : HR ρ H w) {t e : TypeId} {x : Operand} {lo hi : Option Operand} {ad : Addr} {n l h9 c' : Nat} {L : Loc} {A' : Option Addr} {ii : TypeInfo} (hr : ρ ad.block = some L) (hcv : a.eval x = .slice A' n c') (hm : c' ≤ maxLen)
    (hor : (c' = 0 ∧ ∀ A cap sz, L = .real A cap sz → ad.off = cap) ∨ ∃ A cap sz, L = .real A cap sz ∧ A' = some (A.add ad.off) ∧ ad.off + c' * sz = cap)
    (hu : P.underlying t = some (.slice e)) (hii : P.info? e = some ii) (hbs9 : l = 0 ∨ blkSz H ad.block = some ii.size)
    (hbs : ∀ w', l ≤ h9 ∧ h9 ≤ c' ∧ (Instr.sliceBounds true n c' (lo.map a.eval) (hi.map a.eval) none).run P w' = .ok (l, h9, c') w') :
    POp P (.slice t x lo hi none) ρ a w (.slice (some ⟨ad.block, ad.off + l * ii.size, none⟩) (h9 - l) (h9 - l)) := by
  have hel : P.elem t = e := by simp [Program.elem, hu]
  refine ⟨.slice (if c' = l then A' else A'.map (·.add (l * ii.size))) (h9 - l) (c' - l), ?_, fun o w' ho hk => ?_⟩
  · refine ⟨rfl, L, _, c' - l, hr, rfl, ?_, by omega, ?_⟩
    · have := (hbs w).1; have := (hbs w).2.1; omega
    · have hb1 := (hbs w).1; have hb2 := (hbs w).2.1
      have hsz : ∀ A cap sz', L = .real A cap sz' → l = 0 ∨ sz' = ii.size := fun A cap sz' e => by
        subst e
        rcases hbs9 with h0 | hbs9
        · exact .inl h0
        · right
          unfold blkSz at hbs9
          split at hbs9
          case h_2 => cases hbs9
          rename_i blk9 hblk9
          have := (hh.blk _ _ _ hblk9 hr).2.1
          injection hbs9 with hbs9
          omega
      rcases hor with ⟨hz, hz'⟩ | ⟨A, cap, sz', rfl, rfl, hc⟩
      · refine .inl ⟨by omega, fun A cap sz' e => ?_⟩
        have l0 : l = 0 := by omega
        subst l0
        simpa using hz' A cap sz' e
      · rcases hsz _ _ _ rfl with h0 | hs9
        · subst h0
          by_cases hcl : c' = 0
          · refine .inl ⟨by omega, fun A1 cap1 sz1 e => ?_⟩
            cases e
            subst hcl
            simpa using hc
          · exact .inr ⟨A, cap, sz', rfl, by simp [hcl]; rw [add_add, Nat.add_zero], by simpa using hc⟩
        · by_cases hcl : c' = l
          · refine .inl ⟨by omega, fun A1 cap1 sz1 e => ?_⟩
            cases e
            show ad.off + l * ii.size = cap
            rw [← hs9, ← hcl]; exact hc
          · refine .inr ⟨A, cap, sz', rfl, by simp [hcl, add_add], ?_⟩
            show ad.off + l * ii.size + (c' - l) * sz' = cap
            rw [← hs9, Nat.add_assoc, ← Nat.add_mul, show l + (c' - l) = c' by omega]
            exact hc
  · have := (hbs w').2.2
    have hag : P.underlying t = some (.slice (P.elem t)) := by rw [hel]; exact hu
    rw [← hel] at hii
    simp [execOp, ho, hcv, run_sliceAt_slice w' t _ _ _ _ hag, run_slice_any w' t A' n c' hag, this, sizeOf, typeInfo, hii, sliced]
theorem aSlice_sound (hh : HR ρ H w) {t : Nat} {x : Operand} {lo hi : Option Operand} (hf : FrR ρ fr N a) (h : aSlice P H t (sliceT P t) (aEv fr x) (lo.map (aEv fr)) (hi.map (aEv fr)) = some v) : POp P (.slice t x lo hi none) ρ a w v := by
  cases hx : aEv fr x with
  | none => rw [hx] at h; cases h
  | some u =>
    have hsv := aEv_sound hf hx
    rw [hx] at h
    cases u with
    | slice p n c => cases p with
      | none => cases h
      | some ad =>
        obtain ⟨hs, L, A', c', hr, hcv, hn, hm, hor⟩ := SV_slice hsv
        simp only [aSlice] at h
        cases hl : sliceT P t with
        | none => rw [hl] at h; cases h
        | some ng =>
          obtain ⟨e, sz⟩ := ng
          rw [hl] at h
          cases hb : aBounds n (lo.map (aEv fr)) (hi.map (aEv fr)) with
          | none => rw [hb] at h; cases h
          | some lh =>
            obtain ⟨l, h9⟩ := lh
            rw [hb] at h
            simp only at h
            split at h
            case isFalse => cases h
            rename_i hcond
            obtain ⟨_, hbs9⟩ := hcond
            cases h
            unfold sliceT at hl
            split at hl
            · rename_i e' hu
              split at hl
              · rename_i ii hii
                cases hl
                have hbs := fun w' => aBounds_sound (P := P) (w := w') (b := true) hf hb hn
                exact slice_core hh hr hcv hm hor hu hii hbs9 fun w' => ⟨(hbs w').1, Nat.le_trans (hbs w').2.1 hn, (hbs w').2.2⟩
              · cases hl
            · cases hl
    | string s =>
      have hcv := SV_string hsv
      simp only [aSlice] at h
      cases hb : aBounds s.size (lo.map (aEv fr)) (hi.map (aEv fr)) with
      | none => rw [hb] at h; cases h
      | some lh =>
        obtain ⟨l, hh⟩ := lh
        rw [hb] at h
        simp only at h
        split at h
        · rename_i hs
          cases h
          unfold isStrT at hs
          split at hs
          · rename_i hu
            refine ⟨_, (SV_flat rfl).2 rfl, fun o w' ho hk => ?_⟩
            have := (aBounds_sound (P := P) (w := w') (b := false) hf hb (Nat.le_refl _)).2.2
            simp [execOp, ho, hcv, run_sliceAt_string w' t _ _ _ _ hu, Instr.slice, run_underlying hu, this]
          · cases hs
        · cases h
    | _ => cases h

def aSliceX (P : Program) (H : Heap) (st : Option (TypeId × Nat)) (x : Option Value) (lo hi : Option (Option Value)) : Option Value :=
  match x, st with
  | some (.slice (some ad) _ _), some (_, sz) => (match H.get ad.block with
    | some b => (match aBounds ((b.xs.length - ad.off) / sz) lo hi with
      | some (l, h) => if ad.spot = none ∧ b.sz = sz then some (.slice (some ⟨ad.block, ad.off + l * sz, none⟩) (h - l) (h - l)) else none
      | none => none)
    | none => none)
  | _, _ => none
/-- a slice of a slice, as far as its block is known -/
theorem aSliceX_sound (hh : HR ρ H w) {t : Nat} {x : Operand} {lo hi : Option Operand} (hf : FrR ρ fr N a) (h : aSliceX P H (sliceT P t) (aEv fr x) (lo.map (aEv fr)) (hi.map (aEv fr)) = some v) (hhi : hi.isSome = true) : POp P (.slice t x lo hi none) ρ a w v := by
  cases hx : aEv fr x with
  | none => rw [hx] at h; simp [aSliceX] at h
  | some u =>
    have hsv := aEv_sound hf hx
    rw [hx] at h
    cases u with
    | slice p n c => cases p with
      | none => simp [aSliceX] at h
      | some ad =>
        obtain ⟨hs, L, A', c', hr, hcv, hn, hm, hor⟩ := SV_slice hsv
        cases hl : sliceT P t with
        | none => rw [hl] at h; simp [aSliceX] at h
        | some ng =>
          obtain ⟨e, sz⟩ := ng
          rw [hl] at h
          simp only [aSliceX] at h
          cases hb9 : H.get ad.block with
          | none => rw [hb9] at h; cases h
          | some b =>
            rw [hb9] at h
            simp only at h
            cases hb : aBounds ((b.xs.length - ad.off) / sz) (lo.map (aEv fr)) (hi.map (aEv fr)) with
            | none => rw [hb] at h; cases h
            | some lh =>
              obtain ⟨l, h9⟩ := lh
              rw [hb] at h
              simp only at h
              split at h
              case isFalse => cases h
              rename_i hcond
              obtain ⟨_, hbs9⟩ := hcond
              cases h
              have hblk := hh.blk _ _ _ hb9 hr
              have hroom : (b.xs.length - ad.off) / sz ≤ c' := by
                refine Nat.div_le_of_le_mul ?_
                rw [Nat.mul_comm]
                rcases hor with ⟨h0, h1⟩ | ⟨A, cap, sz', rfl, _, hc⟩
                · cases L with
                  | virt => rw [show b.xs = [] from hblk]; simp
                  | real A cap sz' =>
                    have := h1 _ _ _ rfl
                    have := hblk.2.2.1
                    omega
                · have h2 := hblk.2.1
                  have := hblk.2.2.1
                  rw [h2, hbs9] at hc
                  omega
              unfold sliceT at hl
              split at hl
              · rename_i e' hu
                split at hl
                · rename_i ii hii
                  cases hl
                  have hbs := fun w' => aBounds_sound (P := P) (w := w') (b := true) hf hb hroom
                  cases hi with
                  | none => cases hhi
                  | some hi =>
                    refine slice_core hh hr hcv hm hor hu hii (.inr (by unfold blkSz; rw [hb9]; simp only [hbs9])) fun w' => ⟨(hbs w').1, Nat.le_trans (hbs w').2.1 hroom, ?_⟩
                    have := (hbs w').2.2
                    simpa [Instr.sliceBounds] using this
                · cases hl
              · cases hl
    | _ => simp [aSliceX] at h

theorem aExtract_sound {i : Nat} {x : Operand} {u : Value} (hx : SV ρ u (a.eval x)) (h : aExtract i (some u) = some v) : POp P (.extract x i) ρ a w v := by
  cases u with
  | tuple vs =>
    obtain ⟨vs', hcv, hl⟩ := (show ∃ vs', a.eval x = .tuple vs' ∧ L2 (SV1 ρ) vs.toList vs'.toList from hx)
    simp only [aExtract] at h
    obtain ⟨cv, h1, h2⟩ := hl.get (i := i) (by simpa using h)
    have h1' : vs'[i]? = some cv := by simpa using h1
    exact ⟨cv, SV.of1 h2, fun o w' ho hk => by simp [execOp, ho, hcv, Instr.extract, h1']⟩
  | _ => cases h

theorem aConv_sound {s d : Nat} {x : Operand} {u : Value} (hx : SV ρ u (a.eval x)) (h : aConv P s d (some u) = some v) : POp P (.convert s d x) ρ a w v := by
  cases u with
  | int k n =>
    have hcv := SV_int hx
    simp only [aConv] at h
    cases hs : P.underlying s with
    | none => rw [hs] at h; cases h
    | some ds =>
      cases hd : intT P d with
      | none => rw [hs, hd] at h; cases h
      | some kd =>
        rw [hs, hd] at h
        cases h
        unfold intT at hd
        split at hd
        · rename_i k' hu
          cases hd
          refine ⟨_, (SV_flat rfl).2 rfl, fun o w' ho hk => ?_⟩
          simp [execOp, ho, hcv, convert, run_underlying hs, run_underlying hu, Conv.intToInt]
        · cases hd
  | string b =>
    have hcv := SV_string hx
    simp only [aConv] at h
    split at h
    · rename_i hb
      cases h
      simp only [Bool.and_eq_true] at hb
      obtain ⟨h1, h2⟩ := hb
      unfold isStrT at h1 h2
      split at h1
      · rename_i hu
        split at h2
        · rename_i hu2
          exact ⟨_, (SV_flat rfl).2 rfl, fun o w' ho hk => by simp [execOp, ho, hcv, convert, run_underlying hu, run_underlying hu2]⟩
        · cases h2
      · cases h1
    · cases h
  | _ => cases h

theorem aNil_sound {x : Operand} {u : Value} (hx : SV ρ u (a.eval x)) (h : aNil (some u) = some v) : POp P (.nilCheck x) ρ a w v := by
  cases u with
  | pointer p => cases p with
    | none => cases h
    | some ad =>
      obtain ⟨hs, A, cap, sz, hr, hcv⟩ := SV_ptr hx
      simp only [aNil] at h
      cases h
      exact ⟨_, SV_ptr_mk hs hr, fun o w' ho hk => by simp [execOp, ho, hcv]⟩
  | _ => cases h

theorem aAll_sound (hf : FrR ρ fr N a) : ∀ {xs : List Operand} {vs : List Value}, aAll (xs.map (aEv fr)) = some vs → L2 (SV ρ) vs (xs.map a.eval)
  | [], vs, h => by simp [aAll] at h; subst h; trivial
  | x :: xs, vs, h => by
    simp only [List.map_cons] at h
    cases hx : aEv fr x with
    | none => rw [hx] at h; cases h
    | some u =>
      rw [hx] at h
      simp only [aAll] at h
      cases hr : aAll (xs.map (aEv fr)) with
      | none => rw [hr] at h; cases h
      | some l =>
        rw [hr] at h
        cases h
        exact ⟨aEv_sound hf hx, aAll_sound hf hr⟩

theorem makeFunc_sound (hf : FrR ρ fr N a) {fn : Fn} {first captured : Array Operand} (h : aOp P fr H (.makeFunc fn first captured) = some v) : POp P (.makeFunc fn first captured) ρ a w v := by
  simp only [aOp] at h
  split at h
  · rename_i hfirst
    have hfirst' : first = #[] := by cases first; simp_all
    subst hfirst'
    cases hr : aAll (captured.toList.map (aEv fr)) with
    | none => rw [hr] at h; cases h
    | some l =>
      rw [hr] at h
      simp only at h
      split at h
      · rename_i hp
        cases h
        have hl := aAll_sound hf hr
        refine ⟨.func fn #[] (captured.map a.eval), ⟨_, rfl, rfl, ?_⟩, fun o w' ho hk => by simp [execOp, ho, Instr.makeFunc]⟩
        simp only [Array.toList_map]
        refine hl.mono_mem fun x y hx hxy => ?_
        have hpx := List.all_eq_true.1 hp x hx
        cases x with
        | pointer p => cases p with
          | none => cases hpx
          | some ad =>
            obtain ⟨hs, A, cap, sz, hr', hcv⟩ := SV_ptr hxy
            exact ⟨ad, A, cap, sz, rfl, hs, hr', hcv⟩
        | _ => cases hpx
      · cases h
  · cases h

theorem aLen_sound {t : TypeId} {u cu : Value} (hu : SV ρ u cu) (h : aLen P t (some u) = some v) {ty : TypeId} : flat v = true ∧ ∀ w', (Builtin.len_ #[t] ty #[cu]).run P w' = .ok v w' := by
  cases u with
  | slice p n c =>
    simp only [aLen] at h
    split at h
    · rename_i hs
      cases h
      unfold sliceT at hs
      split at hs
      · rename_i e hue
        refine ⟨rfl, fun w' => ?_⟩
        cases p with
        | none => rw [(SV_flat (v := .slice none n c) rfl).1 hu]; simp [Builtin.len_, run_underlying hue, goInt]
        | some ad =>
          obtain ⟨_, _, A', c', _, rfl, _⟩ := SV_slice hu
          simp [Builtin.len_, run_underlying hue, goInt]
      · cases hs
    · cases h
  | string s =>
    simp only [aLen] at h
    split at h
    · rename_i hs
      cases h
      unfold isStrT at hs
      split at hs
      · rename_i hue
        exact ⟨rfl, fun w' => by rw [SV_string hu]; simp [Builtin.len_, run_underlying hue, goInt]⟩
      · cases hs
    · cases h
  | _ => cases h

theorem aMin2_sound {x y u cx cy : Value} (hx : SV ρ x cx) (hy : SV ρ y cy) (h : aMin2 x y = some u) : flat u = true ∧ ∀ w', (Builtin.min2 cx cy).run P w' = .ok u w' := by
  cases x with
  | int k n => cases y with
    | int k' m =>
      cases h
      rw [SV_int hx, SV_int hy]
      exact ⟨rfl, fun w' => by simp [Builtin.min2]⟩
    | _ => cases h
  | _ => cases h
theorem aMax2_sound {x y u cx cy : Value} (hx : SV ρ x cx) (hy : SV ρ y cy) (h : aMax2 x y = some u) : flat u = true ∧ ∀ w', (Builtin.max2 cx cy).run P w' = .ok u w' := by
  cases x with
  | int k n => cases y with
    | int k' m =>
      cases h
      rw [SV_int hx, SV_int hy]
      exact ⟨rfl, fun w' => by simp [Builtin.max2]⟩
    | _ => cases h
  | _ => cases h
theorem aFold_sound {f : Value → Value → Option Value} {g : Value → Value → Sem Value} (hfg : ∀ {x y u cx cy : Value}, SV ρ x cx → SV ρ y cy → f x y = some u → flat u = true ∧ ∀ w', (g cx cy).run P w' = .ok u w') (hf : FrR ρ fr N a) :
    ∀ (xs : List Operand) (x cx : Value), SV ρ x cx → aFold f x (xs.map (aEv fr)) = some v → ∃ cv, SV ρ v cv ∧ ∀ w', ((xs.map a.eval).foldlM g cx).run P w' = .ok cv w'
  | [], x, cx, hx, h => by simp [aFold] at h; subst h; exact ⟨cx, hx, fun w' => by simp⟩
  | y :: ys, x, cx, hx, h => by
    simp only [List.map_cons] at h
    cases hy : aEv fr y with
    | none => rw [hy] at h; cases h
    | some u =>
      rw [hy] at h
      simp only [aFold] at h
      cases hu : f x u with
      | none => rw [hu] at h; cases h
      | some z =>
        rw [hu] at h
        obtain ⟨g1, g2⟩ := hfg hx (aEv_sound hf hy) hu
        obtain ⟨cv, k1, k2⟩ := aFold_sound hfg hf ys z z ((SV_flat g1).2 rfl) h
        exact ⟨cv, k1, fun w' => by simp [List.foldlM_cons, g2, k2]⟩

theorem aBuiltin_sound (hf : FrR ρ fr N a) {c : Call} {b : Builtin} (hc : c.callee = .builtin b) (h : aBuiltin P b c.argTypes.toList (c.args.toList.map (aEv fr)) = some v) : POp P (.call c) ρ a w v := by
  have hex : ∀ (o : Oper) w' {cv : Value}, o.op = .call c → (∀ ty cs, (builtin b c.argTypes ty cs (c.args.map a.eval)).run P w' = .ok (.value cv) w') → (execOp a.eval o).run P w' = .ok (.value cv) w' := by
    intro o w' cv ho hb
    simp [execOp, ho, resolve, hc, invoke, hb]
  have hfold : ∀ {f : Value → Value → Option Value} {g : Value → Value → Sem Value}, (∀ {x y u cx cy : Value}, SV ρ x cx → SV ρ y cy → f x y = some u → flat u = true ∧ ∀ w', (g cx cy).run P w' = .ok u w') →
      aFold1 f (c.args.toList.map (aEv fr)) = some v → ∃ cv, SV ρ v cv ∧ ∀ w', (match (c.args.map a.eval).toList with | [] => (stuck "" : Sem Value) | x :: rest => rest.foldlM g x).run P w' = .ok cv w' := by
    intro f g hfg h
    rw [Array.toList_map]
    cases hl : c.args.toList with
    | nil => rw [hl] at h; cases h
    | cons x xs =>
      rw [hl] at h
      simp only [List.map_cons] at h
      cases hx : aEv fr x with
      | none => rw [hx] at h; cases h
      | some u =>
        rw [hx] at h
        exact aFold_sound hfg hf xs u _ (aEv_sound hf hx) h
  cases b with
  | len =>
    simp only [aBuiltin] at h
    split at h
    · rename_i t u e1 e2
      have e1' : c.argTypes = #[t] := by cases hq : c.argTypes; simp_all
      match hl : c.args.toList, e2 with
      | [x], e2 =>
        have hargs : c.args = #[x] := by cases hq : c.args; simp_all
        simp only [List.map_cons, List.map_nil, List.cons.injEq, and_true] at e2
        rw [← e2] at h
        cases hx : aEv fr x with
        | none => rw [hx] at h; cases h
        | some u' =>
          rw [hx] at h
          refine ⟨v, (SV_flat (aLen_sound (ty := 0) (aEv_sound hf hx) h).1).2 rfl, fun o w' ho hk => hex o w' ho fun ty cs => ?_⟩
          rw [e1', hargs]
          simp [builtin, (aLen_sound (aEv_sound hf hx) h).2]
    · cases h
  | min =>
    obtain ⟨cv, h1, h2⟩ := hfold aMin2_sound h
    refine ⟨cv, h1, fun o w' ho hk => hex o w' ho fun ty cs => ?_⟩
    have := h2 w'
    simp only [builtin, Sem.run_bind, Builtin.min_]
    split at this
    · simp at this
    · rename_i x rest e; rw [e]; simp [this]
  | max =>
    obtain ⟨cv, h1, h2⟩ := hfold aMax2_sound h
    refine ⟨cv, h1, fun o w' ho hk => hex o w' ho fun ty cs => ?_⟩
    have := h2 w'
    simp only [builtin, Sem.run_bind, Builtin.max_]
    split at this
    · simp at this
    · rename_i x rest e; rw [e]; simp [this]
  | _ => cases h

theorem aInt_sound {op : BinOp} {k : IntKind} {x y : Int} (h : aInt op k x y = some v) {t : TypeId} {xo yo : Operand} :
    flat v = true ∧ ∀ w', (do eqGuard op t xo yo (.int k x) (.int k y); binOp op t (.int k x) (.int k y) : Sem Value).run P w' = .ok v w' := by
  cases op <;> simp only [aInt] at h <;> first
    | (cases h; done)
    | (cases h; refine ⟨rfl, fun w' => ?_⟩; simp [eqGuard_at_int, binOp_add, binOp_sub, binOp_mul, binOp_lss, binOp_leq, binOp_gtr, binOp_geq, Op.intArith]; done)
    | (cases h; refine ⟨rfl, fun w' => ?_⟩; simp only [Sem.run_bind, eqGuard_at_int, Sem.run_pure, Result.andThen_ok, binOp_eql, binOp_neq, bne]; rfl)
    | (split at h
       · cases h
       · rename_i hne; cases h; refine ⟨rfl, fun w' => ?_⟩; simp [eqGuard_at_int, binOp_quo, binOp_rem, Op.intDiv, hne]; done)
    | (split at h
       · cases h
       · rename_i hne; cases h; refine ⟨rfl, fun w' => ?_⟩; simp [eqGuard_at_int, binOp, Op.shift, hne]; done)
    | (cases h; refine ⟨rfl, fun w' => ?_⟩; simp [eqGuard_at_int, binOp, Op.intBits, bAnd])
theorem aStr_sound {op : BinOp} {x y : ByteArray} (h : aStr op x y = some v) {t : TypeId} {xo yo : Operand} :
    flat v = true ∧ ∀ w', (do eqGuard op t xo yo (.string x) (.string y); binOp op t (.string x) (.string y) : Sem Value).run P w' = .ok v w' := by
  cases op <;> simp only [aStr] at h <;> first
    | (cases h; done)
    | (cases h; refine ⟨rfl, fun w' => ?_⟩; simp [eqGuard_at_string, binOp, Op.stringOp]; done)
    | (split at h
       · rename_i hle; cases h; refine ⟨rfl, fun w' => ?_⟩; simp only [Sem.run_bind, eqGuard_at_string, Sem.run_pure, Result.andThen_ok, binOp, Op.stringOp]; rw [if_neg (by omega)]; rfl
       · cases h)
theorem aBool_sound {op : BinOp} {x y : Bool} {t : TypeId} (ht : isBoolT P t = true) (h : (match op with | .eql => some (.bool (x == y)) | .neq => some (.bool (!(x == y))) | _ => none) = some v) {xo yo : Operand} :
    flat v = true ∧ ∀ w', (do eqGuard op t xo yo (.bool x) (.bool y); binOp op t (.bool x) (.bool y) : Sem Value).run P w' = .ok v w' := by
  unfold isBoolT at ht
  split at ht
  · rename_i hu
    have heq : ∀ w', (Op.equal t (.bool x) (.bool y)).run P w' = .ok (x == y) w' := fun w' => by
      have : ∀ d : Nat, (Op.equalIn (d + 1) t (.bool x) (.bool y)).run P w' = .ok (x == y) w' := fun d => by simp [Op.equalIn, run_underlying hu]
      exact this 9999
    cases op <;> first
      | (cases h; done)
      | (cases h; refine ⟨rfl, fun w' => ?_⟩; simp only [Sem.run_bind, eqGuard_at_bool, Sem.run_pure, Result.andThen_ok, binOp, heq])
  · cases ht

theorem CR_int' {k : IntKind} {n : Int} {cv : Value} (h : CR ρ (.int k n) cv) : cv = .int k n := (CR_flat rfl).1 h
theorem CR_bool' {b : Bool} {cv : Value} (h : CR ρ (.bool b) cv) : cv = .bool b := (CR_flat rfl).1 h
theorem aEqs_sound {xs ys : Array Value} {cs ds : Array Value} (hx : L2 (CR ρ) xs.toList cs.toList) (hy : L2 (CR ρ) ys.toList ds.toList) (d : Nat) (w' : World) :
    ∀ (fs : List Field) (sh : List (Nat × Bool)) (r : Bool), eqFieldsT P fs = some sh → aEqs xs.toList ys.toList sh = some r → (Op.eqFields (d + 1) cs ds fs).run P w' = .ok r w'
  | [], sh, r, hs, hr => by
    cases hs
    cases hr
    simp [Op.eqFields]
  | f :: fs, sh, r, hs, hr => by
    unfold eqFieldsT at hs
    split at hs
    · cases hs
    rename_i hn
    have go : ∀ (x y : Value) (q r' : Bool), cs[f.offset]? = some x → ds[f.offset]? = some y → P.plainKey f.type = true → (Op.equalIn (d + 1) f.type x y).run P w' = .ok q w' →
        (Op.eqFields (d + 1) cs ds fs).run P w' = .ok r' w' → (Op.eqFields (d + 1) cs ds (f :: fs)).run P w' = .ok (q && r') w' := by
      intro x y q r' h1 h2 hp h3 h4
      simp only [Op.eqFields, ne_eq, hn, not_false_eq_true, if_true, Sem.run_bind, run_part_plain w' hp h1, run_part_plain w' hp h2, h3, Result.andThen_ok]
      cases q
      · simp
      · simpa using h4
    split at hs
    · rename_i k0 rest hu hrest
      cases hs
      simp only [aEqs] at hr
      split at hr
      · rename_i k m k' n r' e1 e2 e3
        split at hr
        · rename_i hk
          obtain ⟨_, rfl⟩ := hk
          cases hr
          obtain ⟨x, hx1, hx2⟩ := hx.get e1
          obtain ⟨y, hy1, hy2⟩ := hy.get e2
          rw [CR_int' hx2, Array.getElem?_toList] at hx1
          rw [CR_int' hy2, Array.getElem?_toList] at hy1
          have := run_equalIn_int (P := P) w' d f.type k k0 m n hu
          exact go _ _ _ _ hx1 hy1 (by unfold Program.plainKey; rw [hu]) (by rw [this]; simp [BEq.beq]) (aEqs_sound hx hy d w' fs _ _ hrest e3)
        · cases hr
      · split at hr
        · rename_i hb; exact absurd hb (by simp)
        · cases hr
      · cases hr
    · rename_i rest hu hrest
      cases hs
      simp only [aEqs] at hr
      split at hr
      · split at hr
        · rename_i hb; exact absurd hb.1 (by simp)
        · cases hr
      · rename_i p q r' e1 e2 e3
        split at hr
        · cases hr
          obtain ⟨x, hx1, hx2⟩ := hx.get e1
          obtain ⟨y, hy1, hy2⟩ := hy.get e2
          rw [CR_bool' hx2, Array.getElem?_toList] at hx1
          rw [CR_bool' hy2, Array.getElem?_toList] at hy1
          have := run_equalIn_bool' (P := P) w' d f.type p q hu
          exact go _ _ _ _ hx1 hy1 (by unfold Program.plainKey; rw [hu]) (by rw [this]; simp [BEq.beq]) (aEqs_sound hx hy d w' fs _ _ hrest e3)
        · cases hr
      · cases hr
    · cases hs
theorem aAgg_sound {op : BinOp} {t : TypeId} {xs ys cs ds : Array Value} (hx : L2 (CR ρ) xs.toList cs.toList) (hy : L2 (CR ρ) ys.toList ds.toList)
    (h : aBin P op t (some (.agg xs)) (some (.agg ys)) = some v) {xo yo : Operand} :
    flat v = true ∧ ∀ w', (do eqGuard op t xo yo (.agg cs) (.agg ds); binOp op t (.agg cs) (.agg ds) : Sem Value).run P w' = .ok v w' := by
  simp only [aBin] at h
  split at h
  · rename_i sh hsh
    split at h
    · rename_i r hr
      unfold eqT at hsh
      split at hsh
      · rename_i fs hu
        split at hsh
        · rename_i hg
          have hfo : P.fieldsOf t = fs := by unfold Program.fieldsOf; rw [hu]
          have he : ∀ w', (Op.equalIn 10000 t (.agg cs) (.agg ds)).run P w' = .ok r w' := fun w' => by
            have := run_equalIn_struct (P := P) w' 9999 t cs ds (by rw [hfo]; exact hu) hg.1
            rw [this, hfo]
            exact aEqs_sound hx hy 9998 w' _ _ _ hsh hr
          cases op <;> first
            | (cases h; done)
            | (cases h; refine ⟨rfl, fun w' => ?_⟩; simp only [Sem.run_bind, run_eqGuard_agg w' _ t xo yo cs ds hg.2, Result.andThen_ok, run_eql_struct, run_neq_struct, he])
        · cases hsh
      · cases hsh
    · cases h
  · cases h
theorem aBin_sound {op : BinOp} {t t' : TypeId} {x y : Operand} {u1 u2 : Value} (h1 : SV ρ u1 (a.eval x)) (h2 : SV ρ u2 (a.eval y)) (h : aBin P op t (some u1) (some u2) = some v) : POp P (.binOp op t x y t') ρ a w v := by
  have fin : (flat v = true ∧ ∀ w', (do eqGuard op t x y (a.eval x) (a.eval y); binOp op t (a.eval x) (a.eval y) : Sem Value).run P w' = .ok v w') → POp P (.binOp op t x y t') ρ a w v := by
    rintro ⟨g1, g2⟩
    refine ⟨v, (SV_flat g1).2 rfl, fun o w' ho hk => ?_⟩
    have := g2 w'
    simp only [execOp, ho]
    rw [Sem.run_bind, this]
    simp
  cases u1 with
  | int k n => cases u2 with
    | int k' m =>
      simp only [aBin] at h
      split at h
      · rename_i hk
        subst hk
        exact fin (by rw [SV_int h1, SV_int h2]; exact aInt_sound h)
      · cases h
    | _ => cases h
  | bool p => cases u2 with
    | bool q =>
      simp only [aBin] at h
      split at h
      · rename_i hb
        exact fin (by rw [SV_bool h1, SV_bool h2]; exact aBool_sound hb h)
      · cases h
    | _ => cases h
  | string p => cases u2 with
    | string q =>
      simp only [aBin] at h
      exact fin (by rw [SV_string h1, SV_string h2]; exact aStr_sound h)
    | _ => cases h
  | agg xs => cases u2 with
    | agg ys =>
      obtain ⟨cs, hc, hcl⟩ := SV_agg h1
      obtain ⟨ds, hd, hdl⟩ := SV_agg h2
      exact fin (by rw [hc, hd]; exact aAgg_sound hcl hdl h)
    | _ => cases h
  | _ => cases u2 <;> cases h

theorem aUn_sound {op : UnOp} {t : TypeId} {x : Operand} {u : Value} (hx : SV ρ u (a.eval x)) (h : aUn op (some u) = some v) : POp P (.unOp op t x) ρ a w v := by
  cases u with
  | bool b =>
    cases op <;> first
      | (cases h; done)
      | (cases h; exact ⟨_, (SV_flat rfl).2 rfl, fun o w' ho hk => by simp [execOp, ho, SV_bool hx, Op.unary]⟩)
  | int k n =>
    cases op <;> first
      | (cases h; done)
      | (cases h; exact ⟨_, (SV_flat rfl).2 rfl, fun o w' ho hk => by simp [execOp, ho, SV_int hx, Op.unary, Op.intArith]⟩)
  | _ => cases h

theorem aPick_sound {c x y : Operand} (hf : FrR ρ fr N a) (h : aPick (aEv fr c) (aEv fr x) (aEv fr y) = some v) : POp P (.pick c x y) ρ a w v := by
  cases hc : aEv fr c with
  | none => rw [hc] at h; cases h
  | some u =>
    rw [hc] at h
    cases u with
    | bool b =>
      have hcb := SV_bool (aEv_sound hf hc)
      cases b with
      | true =>
        simp only [aPick] at h
        exact ⟨_, aEv_sound hf h, fun o w' ho hk => by simp [execOp, ho, hcb, asBool]⟩
      | false =>
        simp only [aPick] at h
        exact ⟨_, aEv_sound hf h, fun o w' ho hk => by simp [execOp, ho, hcb, asBool]⟩
    | _ => cases h

theorem aOp_sound (hf : FrR ρ fr N a) (hh : HR ρ H w) {op : Op} (h : aOp P fr H op = some v) : POp P op ρ a w v := by
  have get : ∀ {x : Operand} {F : Option Value → Option Value}, F none = none → F (aEv fr x) = some v → ∃ u, aEv fr x = some u ∧ F (some u) = some v := by
    intro x F h0 h
    cases hx : aEv fr x with
    | none => rw [hx, h0] at h; cases h
    | some u => rw [hx] at h; exact ⟨u, rfl, h⟩
  cases op with
  | move x => exact ⟨_, aEv_sound hf h, fun o w' ho hk => by simp [execOp, ho]⟩
  | assign x => exact ⟨_, aEv_sound hf h, fun o w' ho hk => by simp [execOp, ho]⟩
  | pick c x y => exact aPick_sound hf h
  | binOp op t x y t' =>
    simp only [aOp] at h
    cases hx : aEv fr x with
    | none => rw [hx] at h; simp [aBin] at h
    | some u =>
      cases hy : aEv fr y with
      | none => rw [hx, hy] at h; cases u <;> simp [aBin] at h
      | some u' => rw [hx, hy] at h; exact aBin_sound (aEv_sound hf hx) (aEv_sound hf hy) h
  | unOp op t x =>
    obtain ⟨u, hx, h⟩ := get (F := aUn op) rfl h
    exact aUn_sound (aEv_sound hf hx) h
  | load t x =>
    obtain ⟨u, hx, h⟩ := get (F := aLoadV (loadT P t) H) rfl h
    exact aLoadV_sound hh (aEv_sound hf hx) h
  | fieldAddr s x f =>
    obtain ⟨u, hx, h⟩ := get (F := aFieldAddr (fieldOff P s f)) rfl h
    exact aFieldAddr_sound (aEv_sound hf hx) h
  | indexAddr t x i =>
    simp only [aOp] at h
    cases hx : aEv fr x with
    | none => rw [hx] at h; simp [aIndexAddr] at h
    | some u =>
      cases hy : aEv fr i with
      | none => rw [hx, hy] at h; cases u <;> first | (simp [aIndexAddr] at h; done) | (rename_i p; cases p <;> simp [aIndexAddr] at h; done) | (rename_i p _ _; cases p <;> simp [aIndexAddr] at h)
      | some u' => rw [hx, hy] at h; exact aIndexAddr_sound (aEv_sound hf hx) (aEv_sound hf hy) h
  | field s x f =>
    obtain ⟨u, hx, h⟩ := get (F := aField (fieldT P s f)) rfl h
    exact aField_sound (aEv_sound hf hx) h
  | index t x i =>
    simp only [aOp] at h
    cases hx : aEv fr x with
    | none => rw [hx] at h; simp [aIndex] at h
    | some u =>
      cases hy : aEv fr i with
      | none => rw [hx, hy] at h; cases u <;> simp [aIndex] at h
      | some u' => rw [hx, hy] at h; exact aIndex_sound (aEv_sound hf hx) (aEv_sound hf hy) h
  | slice t x lo hi mx =>
    cases mx with
    | none => exact aSlice_sound hh hf h
    | some m => cases h
  | extract x i =>
    obtain ⟨u, hx, h⟩ := get (F := aExtract i) rfl h
    exact aExtract_sound (aEv_sound hf hx) h
  | convert s d x =>
    obtain ⟨u, hx, h⟩ := get (F := aConv P s d) rfl h
    exact aConv_sound (aEv_sound hf hx) h
  | nilCheck x =>
    obtain ⟨u, hx, h⟩ := get (F := aNil) rfl h
    exact aNil_sound (aEv_sound hf hx) h
  | makeFunc fn first captured => exact makeFunc_sound hf h
  | call c =>
    simp only [aOp] at h
    split at h
    · rename_i b hb
      exact aBuiltin_sound hf hb h
    · cases h
  | _ => cases h

end
end Go.Am
