/- The abstract layer, part 8: vcOp is sound; lists of operations, regions that draw their order, code, a function's body. -/
import Derived.Test.YtdbneadblnejgaaAm7
import Derived.BigQuiet
import Derived.Laws.IdiomStrings
namespace Go.Am
open Go.RowKit
set_option linter.unusedVariables false

section
variable {P : Program} {N : Nat} {H0 : Heap} {o : Oper} {K : Fr → Heap → Prop} {fr : Fr} {H : Heap} {ρ : Rho} {a : Act} {w : World}

/-! ### fill -/
theorem setL_length : ∀ (vs cs : List Value) (off : Nat), (aSetL cs off vs).length = cs.length
  | [], _, _ => rfl
  | v :: vs, cs, off => by rw [aSetL, setL_length vs]; simp
theorem setL_rel {R : Value → Value → Prop} : ∀ (vs cvs cs ccs : List Value) (off : Nat), L2 R cs ccs → L2 R vs cvs → L2 R (aSetL cs off vs) (aSetL ccs off cvs)
  | [], [], _, _, _, h, _ => h
  | v :: vs, c :: cvs, cs, ccs, off, h, h2 => setL_rel vs cvs _ _ _ (h.set off h2.1) h2.2
  | [], _ :: _, _, _, _, _, h => h.elim
  | _ :: _, [], _, _, _, _, h => h.elim
theorem foldl_setL (off : Nat) : ∀ (vs : List Value) (k : Nat) (cs : Array Value),
    (vs.zipIdx k).foldl (fun cs (x : Value × Nat) => cs.setIfInBounds (off + x.2) x.1) cs = (aSetL cs.toList (off + k) vs).toArray
  | [], _, cs => by simp [aSetL]
  | v :: vs, k, cs => by
    simp only [List.zipIdx_cons, List.foldl_cons, aSetL]
    rw [foldl_setL off vs (k + 1)]
    simp [Array.toList_setIfInBounds, Nat.add_assoc]

theorem aFill_sound {place : Nat → Option (Nat × Nat)} {R : Value → Value → Prop} (hR : ∀ v cv, CR ρ v cv → R v cv) (hf : FrR ρ fr N a) :
    ∀ (parts : List (Nat × Operand)) (cs : List Value) (ccs : Array Value) (l : List Value), L2 R cs ccs.toList → aFill place cs (parts.map fun p => (p.1, aEv fr p.2)) = some l →
    ∃ cl, Instr.fill place ccs (parts.map fun p => (p.1, a.eval p.2)) = some cl ∧ L2 R l cl.toList
  | [], cs, ccs, l, h, hl => by simp [aFill] at hl; subst hl; exact ⟨ccs, rfl, h⟩
  | (i, x) :: parts, cs, ccs, l, h, hl => by
    simp only [List.map_cons] at hl ⊢
    cases hx : aEv fr x with
    | none => rw [hx] at hl; cases hl
    | some v =>
      rw [hx] at hl
      simp only [aFill] at hl
      cases hp : place i with
      | none => rw [hp] at hl; cases hl
      | some on =>
        obtain ⟨off, n⟩ := on
        rw [hp] at hl
        simp only at hl
        split at hl
        · rename_i hc
          obtain ⟨c1, c2, c3⟩ := hc
          have hcells := ((aEv_sound hf hx).to1 c3).cells
          have hsz : (a.eval x).cells.size = n := by have := hcells.length; simp at this; omega
          have hlen := h.length
          simp only [Array.length_toList] at hlen
          have := setL_rel _ _ _ _ off h (hcells.mono hR)
          obtain ⟨cl, g1, g2⟩ := aFill_sound hR hf parts _ (aSetL ccs.toList off (a.eval x).cells.toList).toArray l (by simpa using this) hl
          refine ⟨cl, ?_, g2⟩
          simp only [Instr.fill, hp]
          have hno : ((a.eval x).cells.size ≠ n || decide (off + (a.eval x).cells.size > ccs.size)) = false := by
            rw [hsz]; simp; omega
          rw [if_neg (by simpa using hno)]
          have hz := foldl_setL off (a.eval x).cells.toList 0 ccs
          rw [Nat.add_zero] at hz
          rw [← hz] at g1
          rw [← g1]
          congr 1
          rw [← Array.foldl_toList]
          simp [Array.toList_zipIdx]
        · cases hl

theorem placeT_run {t : TypeId} (h : allPlaces P t = true) {vs : List (Nat × Value)} {z cs : Array Value} {i : TypeInfo} {zv : Value} (hi : P.info? t = some i) (hz : i.zero = some zv) (hzz : zv.cells = z)
    (hfill : Instr.fill (placeT P t) z vs = some cs) (w : World) : (Instr.build t vs.toArray).run P w = .ok (.agg cs) w := by
  unfold allPlaces at h
  cases hu : P.underlying t with
  | none => rw [hu] at h; cases h
  | some d =>
    rw [hu] at h
    cases d with
    | struct fs =>
      simp only at h
      have hmap : (fs.mapM fun f => do pure (f.offset, ← sizeOf f.type) : Sem (Array (Nat × Nat))).run P w = .ok (fs.map fun f => (f.offset, ((P.info? f.type).map (·.size)).getD 0)) w := by
        rw [Array.mapM_eq_mapM_toList]
        have key : ∀ (l : List Field), (l.all fun f => (P.info? f.type).isSome) = true → (l.mapM fun f => do pure (f.offset, ← sizeOf f.type) : Sem (List (Nat × Nat))).run P w = .ok (l.map fun f => (f.offset, ((P.info? f.type).map (·.size)).getD 0)) w := by
          intro l
          induction l with
          | nil => intro _; rfl
          | cons f l ih =>
            intro hl
            simp only [List.all_cons, Bool.and_eq_true] at hl
            obtain ⟨j, hj⟩ := Option.isSome_iff_exists.1 hl.1
            have hsz : (sizeOf f.type).run P w = .ok j.size w := by simp [sizeOf, typeInfo, hj]
            simp only [List.mapM_cons, Sem.run_bind, hsz, Result.andThen_ok, hj, Sem.run_pure, ih hl.2, List.map_cons, Option.map_some, Option.getD_some]
        rw [Sem.run_map, key _ h]
        cases fs
        simp
      have hp : (placeT P t) = fun k => (fs.map fun f => (f.offset, ((P.info? f.type).map (·.size)).getD 0))[k]? := by
        funext k
        simp only [placeT, hu, Array.getElem?_map]
        cases hf : fs[k]? with
        | none => rfl
        | some f =>
          have hm : f ∈ fs.toList := by
            have := Array.getElem?_eq_some_iff.1 hf
            rw [← this.2]; simp
          have := List.all_eq_true.1 h f hm
          obtain ⟨j, hj⟩ := Option.isSome_iff_exists.1 this
          simp [hj]
      rw [hp] at hfill
      simp only [Instr.build, Sem.run_bind, zeroValue, typeInfo, run_program, Result.andThen_ok, hi, Sem.run_pure, hz, run_underlying hu, hmap, hzz]
      rw [hfill]
      rfl
    | array n e =>
      simp only at h
      obtain ⟨j, hj⟩ := Option.isSome_iff_exists.1 h
      have hp : (placeT P t) = fun k => some (k * j.size, j.size) := by funext k; simp [placeT, hu, hj]
      rw [hp] at hfill
      simp only [Instr.build, Sem.run_bind, zeroValue, typeInfo, run_program, Result.andThen_ok, hi, Sem.run_pure, hz, run_underlying hu, hzz, sizeOf, hj]
      rw [hfill]
      rfl
    | _ => cases h

theorem build_sound {t : TypeId} {parts : Array (Nat × Operand)} {v : Value} (ho : o.op = .build t parts) (hd : Fr.dstOk N o.dst = true)
    (h : aBuild P t (parts.toList.map fun p => (p.1, aEv fr p.2)) = some v) (hK : K (fr.put o.dst v) H) : ARun P N H0 o K fr H := by
  unfold aBuild at h
  cases hz : zeroT P t with
  | none => rw [hz] at h; cases h
  | some z =>
    rw [hz] at h
    simp only at h
    split at h
    · rename_i hall
      cases hl : aFill (placeT P t) z (parts.toList.map fun p => (p.1, aEv fr p.2)) with
      | none => rw [hl] at h; cases h
      | some l =>
        rw [hl] at h
        cases h
        obtain ⟨i, zv, hi, hzz, rfl, hfl⟩ := zeroT_spec hz
        refine ARun.eff hd (fun ρ a w hf hh => ?_) hK
        obtain ⟨cl, g1, g2⟩ := aFill_sound (ρ := ρ) (R := CR ρ) (fun _ _ h => h) hf parts.toList zv.cells.toList zv.cells l ((L2_flat hfl).2 rfl) hl
        refine ⟨.agg cl, ρ, w, ?_, ⟨cl, rfl, by simpa using g2⟩, fun _ _ h => h, hh, Ext.refl _ _ _⟩
        have := placeT_run (P := P) hall hi hzz rfl g1 w
        simp only [execOp, ho, Sem.run_bind]
        have hm : (parts.map fun (x : Nat × Operand) => (x.1, a.eval x.2)) = (parts.toList.map fun p => (p.1, a.eval p.2)).toArray := by cases parts; simp
        rw [hm, this]
        rfl
    · cases h

theorem aParts_sound {e : TypeId} {sz : Nat} (hf : FrR ρ fr N a) : ∀ (parts : List (Nat × Operand)) (k : Nat) (pre : List Value) (base : Array Value) (l : List Value), pre.length = k * sz → base.size = (k + parts.length) * sz → base.toList.take (k * sz) = pre →
    aParts sz k (parts.map fun p => (p.1, aEv fr p.2)) = some l → ∃ cl : List Value, L2 (CR ρ) l cl ∧ Instr.fill (fun i => some (i * sz, sz)) base (parts.map fun p => (p.1, a.eval p.2)) = some (pre ++ cl).toArray
  | [], k, pre, base, l, h1, h2, h3, hl => by
    simp only [List.map_nil, aParts, Option.some.injEq] at hl
    subst hl
    refine ⟨[], trivial, ?_⟩
    simp only [List.map_nil, Instr.fill, List.append_nil]
    have : base.toList.take (k * sz) = base.toList := List.take_of_length_le (by simp only [Array.length_toList, h2, List.length_nil, Nat.add_zero]; exact Nat.le_refl _)
    rw [this] at h3
    rw [← h3]
  | (i, x) :: parts, k, pre, base, l, h1, h2, h3, hl => by
    simp only [List.map_cons] at hl ⊢
    cases hx : aEv fr x with
    | none => rw [hx] at hl; cases hl
    | some v =>
      rw [hx] at hl
      simp only [aParts] at hl
      split at hl
      · rename_i hc
        obtain ⟨rfl, c2, c3⟩ := hc
        cases hr : aParts sz (i + 1) (parts.map fun p => (p.1, aEv fr p.2)) with
        | none => rw [hr] at hl; cases hl
        | some l' =>
          rw [hr] at hl
          cases hl
          have hcells := ((aEv_sound hf hx).to1 c3).cells
          have hsz : (a.eval x).cells.size = sz := by have := hcells.length; simp at this; omega
          have h2' : base.size = (i + 1 + parts.length) * sz := by rw [h2]; simp only [List.length_cons]; congr 1; omega
          have hbs : i * sz + sz ≤ base.size := by
            rw [h2', Nat.add_mul, Nat.add_mul, Nat.one_mul]; omega
          have hset : ∀ (vs : List Value) (cs : List Value) (off : Nat), off + vs.length ≤ cs.length → aSetL cs off vs = cs.take off ++ vs ++ cs.drop (off + vs.length) := by
            intro vs
            induction vs with
            | nil => intro cs off h; simp [aSetL]
            | cons u us ih =>
              intro cs off h
              simp only [List.length_cons] at h
              rw [aSetL, ih _ _ (by simp; omega), List.take_set, List.drop_set_of_lt (by omega)]
              rw [List.take_succ_eq_append_getElem (by omega), List.set_append_right _ _ (by rw [List.length_take]; omega)]
              simp only [List.length_take, List.length_cons]
              rw [show min off cs.length = off by omega, Nat.sub_self]
              simp [Nat.add_assoc, Nat.add_comm 1]
          obtain ⟨cl, g1, g2⟩ := aParts_sound (e := e) hf parts (i + 1) (pre ++ (a.eval x).cells.toList) (aSetL base.toList (i * sz) (a.eval x).cells.toList).toArray l'
            (by rw [List.length_append, h1, Array.length_toList, hsz, Nat.add_mul, Nat.one_mul]) (by simp only [List.size_toArray, setL_length, Array.length_toList]; exact h2')
            (by
              rw [hset _ _ _ (by simp; omega)]
              simp only [Array.length_toList]
              have : (i + 1) * sz = (base.toList.take (i * sz) ++ (a.eval x).cells.toList).length := by
                simp only [List.length_append, List.length_take, Array.length_toList, hsz, Nat.add_mul, Nat.one_mul]; omega
              rw [this, List.take_left, h3])
            hr
          refine ⟨(a.eval x).cells.toList ++ cl, hcells.append g1, ?_⟩
          simp only [Instr.fill]
          have hno : ((a.eval x).cells.size ≠ sz || decide (i * sz + (a.eval x).cells.size > base.size)) = false := by rw [hsz]; simp; omega
          rw [if_neg (by simpa using hno)]
          have hz := foldl_setL (i * sz) (a.eval x).cells.toList 0 base
          rw [Nat.add_zero] at hz
          rw [← hz, List.append_assoc] at g2
          rw [← g2]
          congr 1
          rw [← Array.foldl_toList]
          simp [Array.toList_zipIdx]
      · cases hl

theorem buildSlice_sound {t : TypeId} {len : Nat} {parts : Array (Nat × Operand)} (ho : o.op = .buildSlice t len parts) (hd : Fr.dstOk N o.dst = true)
    (h : vcBuildSlice P t H len (parts.toList.map fun p => (p.1, aEv fr p.2)) (kput K fr o.dst) .mk) : ARun P N H0 o K fr H := by
  unfold vcBuildSlice at h
  cases hs : sliceT P t with
  | none => rw [hs] at h; exact h.elim
  | some q =>
    obtain ⟨e, sz⟩ := q
    rw [hs] at h
    simp only at h
    cases hp : aParts sz 0 (parts.toList.map fun p => (p.1, aEv fr p.2)) with
    | none => rw [hp] at h; exact h.elim
    | some l =>
      rw [hp] at h
      obtain ⟨⟨c1, c2, c3, c4⟩, hK⟩ := h
      simp only [List.length_map, Array.length_toList] at c1
      unfold sliceT at hs
      split at hs
      · rename_i e' hu
        split at hs
        · rename_i i hi
          cases hs
          refine ARun.new (xs := l) (e := e) (sz := i.size) hd (fun ρ a w hf hh => ?_) hK
          have hz : ∃ zc : Array Value, (len * i.size = 0 ∧ zc = #[]) ∨ (¬ len * i.size = 0 ∧ ∃ zv : Value, (zeroValue e).run P w = .ok zv w ∧ zc = zv.cells) := by
            by_cases h0 : len * i.size = 0
            · exact ⟨#[], .inl ⟨h0, rfl⟩⟩
            · rcases c4 with c4 | c4
              · exact absurd c4 h0
              · obtain ⟨lz, hlz⟩ := Option.isSome_iff_exists.1 c4
                obtain ⟨j, zv, hj, hzv, _⟩ := zeroT_spec hlz
                exact ⟨zv.cells, .inr ⟨h0, zv, by simp [zeroValue, typeInfo, hj, hzv], rfl⟩⟩
          obtain ⟨zc, hzc⟩ := hz
          obtain ⟨cl, g1, g2⟩ := aParts_sound (e := e) hf parts.toList 0 [] ((Array.range (len * i.size)).map (zc[· % zc.size]!)) l (by simp) (by simp [c1]) (by simp) hp
          simp only [List.nil_append] at g2
          refine ⟨cl.toArray, .slice (some ⟨w.heap.size, 0, none⟩) len len, by simpa using g1, ?_, ?_⟩
          · have hm : (parts.map fun (x : Nat × Operand) => (x.1, a.eval x.2)).toList = parts.toList.map fun p => (p.1, a.eval p.2) := by simp
            simp only [execOp, ho, Instr.buildSlice, Sem.run_bind, run_underlying hu, Result.andThen_ok, sizeOf, typeInfo, run_program, hi, Sem.run_pure]
            rw [if_neg (by omega)]
            rw [← hm] at g2
            rcases hzc with ⟨h0, rfl⟩ | ⟨h0, zv, hzv, rfl⟩
            · simp only [Sem.run_bind, if_pos h0, Sem.run_pure, Result.andThen_ok]
              rw [g2]
              simp [newRow]
            · simp only [Sem.run_bind, if_neg h0, hzv, Sem.run_pure, Result.andThen_ok]
              rw [g2]
              simp [newRow]
          · have hcl : cl.length = len * i.size := by
              have hlen : ∀ (ps : List (Nat × Option Value)) (k : Nat) (l : List Value), aParts i.size k ps = some l → l.length = ps.length * i.size := by
                intro ps
                induction ps with
                | nil => intro k l h; simp [aParts] at h; subst h; simp
                | cons p ps ih =>
                  intro k l h
                  obtain ⟨pi, pv⟩ := p
                  cases pv with
                  | none => cases h
                  | some v =>
                    simp only [aParts] at h
                    split at h
                    · rename_i hc
                      cases hr : aParts i.size (k + 1) ps with
                      | none => rw [hr] at h; cases h
                      | some l' =>
                        rw [hr] at h
                        cases h
                        rw [List.length_append, ih _ _ hr, Array.length_toList, hc.2.1, List.length_cons, Nat.add_mul, Nat.one_mul, Nat.add_comm]
                    · cases h
              rw [← g1.length, hlen _ _ _ hp]; simp [c1]
            exact sl_mk upd_new (Nat.le_refl _) c3 (by simp [hcl]) _
        · cases hs
      · cases hs

theorem toList_madeCells (c : Array Value) (hc : 0 < c.size) (n : Nat) : (madeCells c (n * c.size)).toList = rep n c.toList := by
  have h1 : (madeCells c (n * c.size)).toList = (List.replicate n c.toList).flatten := by
    have hm : ∀ n, (madeCells c n).toList = (List.range n).map (fun j => c[j % c.size]!) := fun n => by simp [madeCells, Array.toList_range]
    rw [hm]
    induction n with
    | zero => simp
    | succ n ih =>
      rw [show (n + 1) * c.size = c.size + n * c.size by rw [Nat.add_mul]; omega, List.range_add, List.map_append, List.replicate_succ, List.flatten_cons, List.map_map, ← ih]
      congr 1
      · apply List.ext_getElem (by simp)
        intro i h1 h2
        have : i < c.size := by simpa using h1
        simp [Nat.mod_eq_of_lt this, this]
      · apply List.map_congr_left
        intro j _
        simp
  rw [h1]
  unfold rep
  split
  · rename_i z hz
    rw [hz]
    induction n with
    | zero => rfl
    | succ n ih => simp [List.replicate_succ]
  · rfl
theorem rep_all {n : Nat} {zs : List Value} {R : Value → Value → Prop} (h : ∀ z ∈ zs, R z z) : L2 R (rep n zs) (rep n zs) := by
  refine L2.refl fun x hx => h x ?_
  unfold rep at hx
  split at hx
  · rw [List.eq_of_mem_replicate hx]; simp
  · obtain ⟨l, h1, h2⟩ := List.mem_flatten.1 hx
    rw [List.eq_of_mem_replicate h1] at h2; exact h2
theorem makeSlice_sound {t : TypeId} {lo co : Operand} (ho : o.op = .makeSlice t lo co) (hd : Fr.dstOk N o.dst = true)
    (h : vcMakeSlice P t H (kput K fr o.dst) .mk (aEv fr lo) (aEv fr co)) : ARun P N H0 o K fr H := by
  cases hl : aEv fr lo with
  | none => rw [hl] at h; simp [vcMakeSlice] at h
  | some lv => cases hc : aEv fr co with
    | none => rw [hl, hc] at h; cases lv <;> simp [vcMakeSlice] at h
    | some cv =>
      rw [hl, hc] at h
      cases lv with
      | int kl l => cases cv with
        | int kc c =>
          simp only [vcMakeSlice] at h
          cases hz : zeroNT P t with
          | none => rw [hz] at h; exact h.elim
          | some q =>
            obtain ⟨e, zs, bytes⟩ := q
            rw [hz] at h
            obtain ⟨⟨rfl, c1, c2, c3⟩, hK⟩ := h
            unfold zeroNT at hz
            split at hz
            · rename_i e' hu
              split at hz
              · rename_i i hi
                split at hz
                · rename_i z' hzz
                  split at hz
                  · rename_i hcond
                    obtain ⟨d1, d0, d2⟩ := hcond
                    cases hz
                    obtain ⟨n, rfl⟩ := Int.eq_ofNat_of_zero_le c1
                    simp only [Int.toNat_natCast] at hK
                    have hmc := toList_madeCells z'.cells d0 n
                    refine ARun.new (xs := rep n z'.cells.toList) (e := e) (sz := z'.cells.toList.length) hd (fun ρ a w hf hh => ?_) hK
                    have hv1 := SV_int (aEv_sound hf hl)
                    have hv2 := SV_int (aEv_sound hf hc)
                    refine ⟨madeCells z'.cells (n * z'.cells.size), .slice (some ⟨w.heap.size, 0, none⟩) n n, ?_, ?_, ?_⟩
                    · rw [hmc]
                      exact rep_all fun x hx => (CR_flat (List.all_eq_true.1 d2 x hx)).2 rfl
                    · have hr := run_make (P := P) w t e i z' hu hi hzz kl kc n n (by omega) (Int.le_refl _) c2 c3
                      simp only [Int.toNat_natCast, d1] at hr
                      simp [execOp, ho, hv1, hv2, hr]
                    · exact sl_mk upd_new (Nat.le_refl _) (by simp only [maxLen]; omega) (by simp [size_madeCells]) _
                  · cases hz
                · cases hz
              · cases hz
            · cases hz
        | _ => simp [vcMakeSlice] at h
      | _ => cases cv <;> simp [vcMakeSlice] at h

theorem Fr.get_filter {p : Nat × Value → Bool} (hp : ∀ k v, p (k, v) = p (k, undef)) : ∀ {fr : Fr} {t : Nat} {v : Value}, Fr.get (fr.filter p) t = some v → fr.get t = some v ∧ p (t, undef) = true
  | [], t, v, h => by cases h
  | (k, u) :: r, t, v, h => by
    by_cases hk : p (k, u) = true
    · rw [List.filter_cons_of_pos hk] at h
      simp only [Fr.get] at h ⊢
      split
      · rename_i e
        rw [if_pos e] at h
        exact ⟨h, by rw [e, ← hp k u]; exact hk⟩
      · rename_i e
        rw [if_neg e] at h
        exact Fr.get_filter hp h
    · rw [List.filter_cons_of_neg hk] at h
      obtain ⟨h1, h2⟩ := Fr.get_filter hp h
      refine ⟨?_, h2⟩
      simp only [Fr.get]
      rw [if_neg]
      · exact h1
      · rintro rfl
        rw [hp] at hk
        exact hk h2
theorem FrR.del {ρ : Rho} {a : Act} (h : FrR ρ fr N a) {dst : Option Tmp} (hd : Fr.dstOk N dst = true) (cv : Value) : FrR ρ (fr.del dst) N (a.put dst cv) := by
  cases dst with
  | none => exact h
  | some d =>
    have hd' : d < N := by simpa [Fr.dstOk] using hd
    refine ⟨h.defers, by simp [Act.put, h.size], fun t u hu => ?_⟩
    obtain ⟨h1, h2⟩ := Fr.get_filter (p := fun p => p.1 != d) (fun _ _ => rfl) hu
    have hne : t ≠ d := by simpa using h2
    have := h.slot t u h1
    simp only [Act.put]
    rw [Array.getD_eq_getD_getElem?, Array.getElem?_setIfInBounds_ne (fun e => hne e.symm), ← Array.getD_eq_getD_getElem?]
    exact this
theorem slice3_sound {t : TypeId} {x l h m : Operand} (ho : o.op = .slice t x (some l) (some h) (some m)) (hd : Fr.dstOk N o.dst = true) (hv : vcSlice3 (sliceT P t) (aEv fr x) (aEv fr l) (aEv fr h) (aEv fr m) (kdel K fr o.dst H) .mk) : ARun P N H0 o K fr H := by
  cases hl : sliceT P t with
  | none => rw [hl] at hv; simp [vcSlice3] at hv
  | some ng =>
  obtain ⟨e, sz⟩ := ng
  rw [hl] at hv
  cases hx : aEv fr x with
  | none => rw [hx] at hv; simp [vcSlice3] at hv
  | some u =>
  rw [hx] at hv
  cases h1 : aEv fr l with
  | none => rw [h1] at hv; cases u <;> simp [vcSlice3] at hv
  | some v1 =>
  rw [h1] at hv
  cases h2 : aEv fr h with
  | none => rw [h2] at hv; cases u <;> cases v1 <;> simp [vcSlice3] at hv
  | some v2 =>
  rw [h2] at hv
  cases h3 : aEv fr m with
  | none => rw [h3] at hv; cases u <;> cases v1 <;> cases v2 <;> simp [vcSlice3] at hv
  | some v3 =>
  rw [h3] at hv
  cases u with
  | slice p n c => cases p with
    | none => simp [vcSlice3] at hv
    | some ad => cases v1 with
      | int k1 i1 => cases v2 with
        | int k2 i2 => cases v3 with
          | int k3 i3 =>
            obtain ⟨⟨b1, b2, b3, b4⟩, hK⟩ := hv
            intro ρ0 w0 ρ a w h0 he hf hh Q
            obtain ⟨hs, L, A', c', hr, hcv, hn, hm, hor⟩ := SV_slice (aEv_sound hf hx)
            have e1 := SV_int (aEv_sound hf h1)
            have e2 := SV_int (aEv_sound hf h2)
            have e3 := SV_int (aEv_sound hf h3)
            unfold sliceT at hl
            split at hl
            · rename_i e' hu
              split at hl
              · rename_i ii hii
                cases hl
                have hel : P.elem t = e := by simp [Program.elem, hu]
                have hag : P.underlying t = some (.slice (P.elem t)) := by rw [hel]; exact hu
                rw [← hel] at hii
                have r3 := run_sliceBound (P := P) w k3 i3 c' .slice3Acap (by omega) (by omega)
                have r2 := run_sliceBound (P := P) w k2 i2 i3.toNat .slice3B (by omega) (by omega)
                have r1 := run_sliceBound (P := P) w k1 i1 i2.toNat .slice3C (by omega) (by omega)
                have hb : (Instr.sliceBounds true n c' (some (.int k1 i1)) (some (.int k2 i2)) (some (.int k3 i3))).run P w = .ok (i1.toNat, i2.toNat, i3.toNat) w := by
                  simp [Instr.sliceBounds, r1, r2, r3]
                unfold Oper.wp
                have hrun : ∃ cv, (execOp a.eval o).run P w = .ok (.value cv) w := ⟨_, by
                  simp [execOp, ho, hcv, e1, e2, e3, run_sliceAt_slice w t _ _ _ _ hag, run_slice_any w t A' n c' hag, hb, sizeOf, typeInfo, hii]; rfl⟩
                obtain ⟨cv, hrun⟩ := hrun
                rw [hrun]
                exact ⟨_, H, ρ, hK, hf.del hd cv, hh, he⟩
              · cases hl
            · cases hl
          | _ => simp [vcSlice3] at hv
        | _ => simp [vcSlice3] at hv
      | _ => simp [vcSlice3] at hv
  | _ => simp [vcSlice3] at hv
theorem toList_zeroCells (c : Array Value) (hc : 0 < c.size) (n : Nat) : (Builtin.zeroCells c n).toList = rep n c.toList := by
  rw [← toList_madeCells c hc n]
  simp [Builtin.zeroCells, madeCells, Array.toList_range]
theorem clear_sound {c : Call} (ho : o.op = .call c) (hc : c.callee = .builtin .clear) (hd : Fr.dstOk N o.dst = true)
    (h : vcClear (kput K fr o.dst) .mk H (clearT1 P c.argTypes.toList) (c.args.toList.map (aEv fr))) : ARun P N H0 o K fr H := by
  cases e1 : c.args.toList with
  | nil => rw [e1] at h; simp [vcClear] at h
  | cons x r => cases r with
    | cons _ _ =>
      rw [e1] at h
      simp only [List.map_cons] at h
      unfold vcClear at h
      split at h
      · rename_i heq
        simp at heq
      · exact h.elim
    | nil =>
      rw [e1] at h
      simp only [List.map_cons, List.map_nil] at h
      have e1' : c.args = #[x] := by cases hq : c.args; simp_all
      cases hx : aEv fr x with
      | none => rw [hx] at h; exact h.elim
      | some u =>
        rw [hx] at h
        cases u with
        | slice p n cc => cases p with
          | none => exact h.elim
          | some ad =>
            simp only [vcClear] at h
            cases hz : clearT1 P c.argTypes.toList with
            | none => rw [hz] at h; exact h.elim
            | some zs => cases hb : H.get ad.block with
              | none => rw [hz, hb] at h; exact h.elim
              | some b =>
                rw [hz, hb] at h
                obtain ⟨⟨h1, hown, hn0, hfit⟩, hK⟩ := h
                refine ARun.eff hd (fun ρ a w hf hh => ?_) hK
                obtain ⟨hs, L, A', c', hr, hcv, hnc, hm, hor⟩ := SV_slice (aEv_sound hf hx)
                obtain ⟨t, hty, hz⟩ : ∃ t, c.argTypes = #[t] ∧ clearT P t = some zs := by
                  cases e2 : c.argTypes.toList with
                  | nil => rw [e2] at hz; cases hz
                  | cons t r => cases r with
                    | cons _ _ => rw [e2] at hz; cases hz
                    | nil =>
                      rw [e2] at hz
                      exact ⟨t, by cases hq : c.argTypes; simp_all, hz⟩
                unfold clearT at hz
                split at hz
                · rename_i e hu
                  split at hz
                  · rename_i i hi
                    split at hz
                    · rename_i z hzz
                      split at hz
                      · rename_i hcond
                        obtain ⟨hsz, hpos, hfl⟩ := hcond
                        cases hz
                        have hnp : 0 < n * z.cells.toList.length := Nat.mul_pos hn0 (by simpa using hpos)
                        rcases hor with ⟨h0, _⟩ | ⟨A, cap, sz, rfl, rfl, hcap⟩
                        · omega
                        · obtain ⟨cur, hAe, hg, hcs, hsz0, hle0, hl2⟩ := blk_cells hh hb hown hr
                          have hAo : A.add ad.off = ⟨A.block, A.off + ad.off, none⟩ := by rw [hAe]; exact addr_addo _ _ _
                          have hcn : L2 (CR ρ) (rep n z.cells.toList) (rep n z.cells.toList) := rep_all fun v hv => (by
                            have := List.all_eq_true.1 hfl v hv
                            cases v with
                            | pointer p => cases p <;> first | rfl | cases this
                            | slice p _ _ => cases p <;> first | rfl | cases this
                            | _ => first | rfl | cases this)
                          have hrl : (rep n z.cells.toList).length = n * z.cells.toList.length := by
                            rw [← toList_zeroCells z.cells hpos n, Array.length_toList, size_zeroCells, Array.length_toList]
                          have hst := run_storeCells_at P A.block (A.off + ad.off) b.e (rep n z.cells.toList) 0 cur w hg (by rw [hrl]; omega) hcn.oneCell
                          have put := put_cells (p := ad.off) hl2 hcn (by omega) hcs hle0
                          rw [Nat.add_zero] at hst
                          rw [hrl] at put
                          have hrl2 := hrl
                          rw [show (rep n z.cells.toList).length = n * z.cells.toList.length from hrl] at hst
                          generalize hcur' : (cur.toList.take (A.off + ad.off) ++ rep n z.cells.toList ++ cur.toList.drop (A.off + ad.off + n * z.cells.toList.length)).toArray = cur' at *
                          have hcs' : cur'.size = A.off + cap := by
                            rw [← hcur', ← hcs]
                            simp only [List.size_toArray, List.length_append, List.length_take, List.length_drop, Array.length_toList, hrl] at *
                            omega
                          obtain ⟨g1, g2⟩ := store_sound hh hb hown hr hg (xs' := b.xs.take ad.off ++ rep n z.cells.toList ++ b.xs.drop (ad.off + n * z.cells.toList.length)) (cur' := cur')
                            (by simp only [List.length_append, List.length_take, List.length_drop, hrl]; omega) hcs' put
                          refine ⟨.tuple #[], ρ, w.setRow A.block cur', ?_, ⟨#[], rfl, trivial⟩, fun _ _ h => h, g1, g2⟩
                          have hn0' : n ≠ 0 := by omega
                          obtain ⟨n', rfl⟩ : ∃ n', n = n' + 1 := ⟨n - 1, by omega⟩
                          simp [execOp, ho, resolve, hc, invoke, builtin, e1', hcv, Builtin.clear_, hty, run_underlying hu, zeroValue, typeInfo, hi, hzz, toList_zeroCells _ hpos, hAo]
                          rw [hst]
                          rfl
                      · cases hz
                    · cases hz
                  · cases hz
                · cases hz
        | _ => exact h.elim
theorem byteL_of : ∀ {vs : List Value} {l : List UInt8}, byteL vs = some l → vs = l.map (fun b => Value.int .u8 (b.toNat : Int))
  | [], l, h => by simp only [byteL] at h; cases h; rfl
  | v :: r, l, h => by
    cases v with
    | int k n => cases k with
      | u8 =>
        simp only [byteL] at h
        split at h
        · rename_i hn
          cases hr : byteL r with
          | none => rw [hr] at h; cases h
          | some l' =>
            rw [hr] at h
            cases h
            have e : ((UInt8.ofNat n.toNat).toNat : Int) = n := by
              rw [UInt8.toNat_ofNat', Nat.mod_eq_of_lt (by omega)]; omega
            rw [List.map_cons, e, ← byteL_of hr]
        · cases h
      | _ => cases h
    | _ => cases h
theorem conv_bytes {s d : TypeId} {x : Operand} {ad : Addr} {n c : Nat} {v : Value} (ho : o.op = .convert s d x) (hf : FrR ρ fr N a) (hh : HR ρ H w) (hx : aEv fr x = some (.slice (some ad) n c)) (hv : aConv2 P H s d (some (.slice (some ad) n c)) = some v) :
    ∃ cv ρ' w', (execOp a.eval o).run P w = .ok (.value cv) w' ∧ SV ρ' v cv ∧ ρ.le ρ' ∧ HR ρ' H w' ∧ Ext ρ H w ρ' H w' := by
  obtain ⟨hs, L, A', c', hr, hcv, hn, hm, hor⟩ := SV_slice (aEv_sound hf hx)
  simp only [aConv2] at hv
  split at hv
  · rename_i hc
    obtain ⟨c1, c2, c3⟩ := hc
    split at hv
    · rename_i l hl
      split at hv
      · rename_i b hb
        cases hv
        rcases hor with ⟨h0, _⟩ | ⟨A, cap, sz, rfl, rfl, hcap⟩
        · omega
        · obtain ⟨cs, h1, h2, h3⟩ := aCells_sound hh hr hl
          have eb := byteL_of hb
          have ecs : cs = l := by
            rw [eb] at h1
            rw [eb]
            exact L2.eq (h1.mono_mem fun x y hx hxy => by
              obtain ⟨q, _, rfl⟩ := List.mem_map.1 hx
              exact hxy)
          subst ecs
          unfold bytesT at c1
          split at c1
          · rename_i e hu
            split at c1
            · rename_i hue
              unfold isStrT at c2
              split at c2
              · rename_i hud
                have hlen : b.length = n := by rw [eb] at h2; simpa using h2
                have hrun := run_convert_bytes_back (P := P) w s d e (A.add ad.off) c' b hu hue hud (fun j hj => h3 j _ (by rw [eb]; simp [hj]))
                rw [hlen] at hrun
                exact ⟨_, ρ, w, by simp [execOp, ho, hcv, hrun], (SV_flat rfl).2 rfl, fun _ _ h => h, hh, Ext.refl _ _ _⟩
              · cases c2
            · cases c1
          · cases c1
      · cases hv
    · cases hv
  · cases hv
theorem vcOp_sound (hd : Fr.dstOk N o.dst = true) (h : vcOp P o K fr H) : ARun P N H0 o K fr H := by
  unfold vcOp at h
  split at h
  · rename_i e x ho
    cases hx : aEv fr x with
    | none => rw [hx] at h; exact h.elim
    | some v => rw [hx] at h; exact box_sound ho hd hx h.1 h.2
  · rename_i e ho
    cases hz : zeroT P e with
    | none => rw [hz] at h; exact h.elim
    | some l => rw [hz] at h; exact alloc_op_sound ho hd hz h
  · rename_i t parts ho
    cases hb : aBuild P t (parts.toList.map fun p => (p.1, aEv fr p.2)) with
    | none => rw [hb] at h; exact h.elim
    | some v => rw [hb] at h; exact build_sound ho hd hb h
  · rename_i t len parts ho; exact buildSlice_sound ho hd h
  · rename_i t l c ho; exact makeSlice_sound ho hd h
  · rename_i t x v ho
    cases hs : aStore P H t (aEv fr x) (aEv fr v) with
    | none => rw [hs] at h; exact h.elim
    | some H' => rw [hs] at h; exact store_op_sound ho hd hs h
  · rename_i c ho
    split at h
    · rename_i f hc
      cases hfv : aEv fr f with
      | none => rw [hfv] at h; exact h.elim
      | some fv => cases hv : aAll (c.args.toList.map (aEv fr)) with
        | none => rw [hfv, hv] at h; cases fv <;> first | exact h.elim | (rename_i fn _ _; cases fn <;> exact h.elim)
        | some vs =>
          rw [hfv, hv] at h
          cases fv with
          | func fn first cap => cases fn with
            | func g => exact call_sound ho hc hd hfv hv h.1 h.2
            | _ => exact h.elim
          | _ => exact h.elim
    · rename_i hc
      cases e1 : c.args.toList with
      | nil => rw [e1] at h; exact h.elim
      | cons s r1 => cases r1 with
        | nil => rw [e1] at h; exact h.elim
        | cons x r2 => cases r2 with
          | cons _ _ => rw [e1] at h; exact h.elim
          | nil =>
            rw [e1] at h
            cases e2 : c.argTypes.toList with
            | nil => rw [e2] at h; exact h.elim
            | cons t q1 => cases q1 with
              | nil => rw [e2] at h; exact h.elim
              | cons t' q2 => cases q2 with
                | cons _ _ => rw [e2] at h; exact h.elim
                | nil =>
                  rw [e2] at h
                  obtain ⟨rfl, h⟩ := h
                  have e1' : c.args = #[s, x] := by cases hq : c.args; simp_all
                  have e2' : c.argTypes = #[t', t'] := by cases hq : c.argTypes; simp_all
                  exact append_op_sound ho hc e1' e2' hd h
    · rename_i hc
      exact clear_sound ho hc hd h
    · rename_i b _ _ hb
      cases hv : aBuiltin P b c.argTypes.toList (c.args.toList.map (aEv fr)) with
      | none => rw [hv] at h; exact h.elim
      | some v =>
        rw [hv] at h
        refine ARun.eff hd (fun ρ a w hf hh => ?_) h
        obtain ⟨cv, h1, h2⟩ := aBuiltin_sound (w := w) hf hb hv
        exact ⟨cv, ρ, w, h2 o w ho fun _ _ => rfl, h1, fun _ _ h => h, hh, Ext.refl _ _ _⟩
    · exact h.elim
  · rename_i t x lo hi ho
    cases hv : aSlice P H t (sliceT P t) (aEv fr x) (lo.map (aEv fr)) (hi.map (aEv fr)) with
    | some v =>
      have e : aSlice2 P H t (sliceT P t) (aEv fr x) (lo.map (aEv fr)) (hi.map (aEv fr)) = some v := by unfold aSlice2; rw [hv]
      rw [e] at h
      exact ARun.pure hd (by rw [ho]; exact hv) h
    | none =>
      cases hi with
      | none =>
        have e : aSlice2 P H t (sliceT P t) (aEv fr x) (lo.map (aEv fr)) ((none : Option Operand).map (aEv fr)) = none := by unfold aSlice2; rw [hv]; rfl
        rw [e] at h
        exact h.elim
      | some hi =>
        cases hx : aSliceX P H (sliceT P t) (aEv fr x) (lo.map (aEv fr)) ((some hi : Option Operand).map (aEv fr)) with
        | none =>
          have e : aSlice2 P H t (sliceT P t) (aEv fr x) (lo.map (aEv fr)) ((some hi : Option Operand).map (aEv fr)) = none := by unfold aSlice2; rw [hv]; exact hx
          rw [e] at h
          exact h.elim
        | some v =>
          have e : aSlice2 P H t (sliceT P t) (aEv fr x) (lo.map (aEv fr)) ((some hi : Option Operand).map (aEv fr)) = some v := by unfold aSlice2; rw [hv]; exact hx
          rw [e] at h
          refine ARun.eff hd (fun ρ a w hf hh => ?_) h
          obtain ⟨cv, h1, h2⟩ := aSliceX_sound (w := w) (hi := some hi) hh hf hx rfl
          refine ⟨cv, ρ, w, ?_, h1, fun _ _ h => h, hh, Ext.refl _ _ _⟩
          exact h2 o w ho fun _ _ => rfl
  · rename_i t x l hh m ho; exact slice3_sound ho hd h
  · rename_i s d x ho
    cases hx : aEv fr x with
    | none => rw [hx] at h; exact h.elim
    | some u =>
      rw [hx] at h
      have plain : aConv2 P H s d (some u) = aConv P s d (some u) → ARun P N H0 o K fr H := fun e => by
        rw [e] at h
        cases hv : aConv P s d (some u) with
        | none => rw [hv] at h; exact h.elim
        | some v => rw [hv] at h; exact ARun.pure hd (by rw [ho]; simp only [aOp, hx]; exact hv) h
      cases u with
      | slice p n c => cases p with
        | none => exact plain rfl
        | some ad =>
          cases hv : aConv2 P H s d (some (.slice (some ad) n c)) with
          | none => rw [hv] at h; exact h.elim
          | some v =>
            rw [hv] at h
            exact ARun.eff hd (fun ρ a w hf hh => conv_bytes ho hf hh hx hv) h
      | _ => exact plain rfl
  · cases hv : aOp P fr H o.op with
    | none => rw [hv] at h; exact h.elim
    | some v => rw [hv] at h; exact ARun.pure hd hv h

end
end Go.Am
