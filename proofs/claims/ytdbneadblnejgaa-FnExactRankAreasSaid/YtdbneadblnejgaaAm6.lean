/- The abstract layer, part 6: append; what one operation does to an abstract state (vcOp); lists of operations, code, calls. -/
import Derived.Test.YtdbneadblnejgaaAm5
namespace Go.Am
open Go.RowKit
set_option linter.unusedVariables false

section
variable {P : Program} {ρ : Rho} {H : Heap} {w : World}

/-- element type, cells and bytes of an element: for append -/
def appT (P : Program) (t : TypeId) : Option (TypeId × Nat × Nat) :=
  match P.underlying t with
  | some (.slice e) => (match P.info? e with
    | some i => (match i.zero with | some z => if z.cells.size = i.size ∧ 0 < i.size then some (e, i.size, i.bytes) else none | none => none)
    | none => none)
  | _ => none
theorem appT_spec {t e : TypeId} {sz bytes : Nat} (h : appT P t = some (e, sz, bytes)) :
    ∃ i z, P.underlying t = some (.slice e) ∧ P.info? e = some i ∧ i.zero = some z ∧ i.size = sz ∧ i.bytes = bytes ∧ z.cells.size = sz ∧ 0 < sz := by
  unfold appT at h
  split at h
  · rename_i e' hu
    split at h
    · rename_i i hi
      split at h
      · rename_i z hz
        split at h
        · rename_i hc
          cases h
          exact ⟨i, z, hu, hi, hz, rfl, rfl, hc.1, hc.2⟩
        · cases h
      · cases h
    · cases h
  · cases h

/-- what is appended: the elements that a slice reads as -/
def aElems (H : Heap) (sz : Nat) : Value → Option (Nat × List Value)
  | .slice none 0 _ => some (0, [])
  | .slice (some ad) m _ => match aCells H ad (m * sz) with | some l => some (m, l) | none => none
  | _ => none

theorem aCells_len {H : Heap} {ad : Addr} {n : Nat} {l : List Value} (h : aCells H ad n = some l) : l.length = n := by
  unfold aCells at h
  split at h
  · split at h
    · split at h
      · cases h; simp; omega
      · cases h
    · cases h
  · cases h
theorem CR.one {v cv : Value} (h : CR ρ v cv) : cv.oneCell' = true := by
  cases v with
  | pointer a => cases a with
    | none => cases h; rfl
    | some ad => obtain ⟨_, _, _, _, _, _, _, rfl⟩ := h; rfl
  | slice a n c => cases a with
    | none => cases h; rfl
    | some ad => obtain ⟨_, _, _, _, _, rfl, _⟩ := h; rfl
  | func fn first cap => obtain ⟨_, rfl, _⟩ := h; rfl
  | agg cs => exact h.elim
  | tuple cs => exact h.elim
  | _ => cases h; rfl
theorem aElems_sound (hh : HR ρ H w) {sz m : Nat} {x cx : Value} {news : List Value} (hx : SV ρ x cx) (h : aElems H sz x = some (m, news)) :
    news.length = m * sz ∧ ∃ A2 c2 cn, cx = .slice A2 m c2 ∧ L2 (CR ρ) news cn ∧ (0 < m → ∃ a2, A2 = some a2 ∧ ∀ j v, cn[j]? = some v → w.cell? (a2.add j) = some v) := by
  cases x with
  | slice p k c => cases p with
    | none =>
      cases k with
      | zero =>
        simp only [aElems, Option.some.injEq, Prod.mk.injEq] at h
        obtain ⟨rfl, rfl⟩ := h
        have := (SV_flat (v := .slice none 0 c) rfl).1 hx
        exact ⟨by simp, none, c, [], this, trivial, fun h => absurd h (by omega)⟩
      | succ k => cases h
    | some ad =>
      obtain ⟨hs, L, A', c', hr, rfl, hn, hm, hor⟩ := SV_slice hx
      simp only [aElems] at h
      split at h
      · rename_i l hc
        cases h
        rcases Nat.eq_zero_or_pos m with h0 | h0
        · subst h0
          have hl : news = [] := List.eq_nil_of_length_eq_zero (by have := aCells_len hc; omega)
          subst hl
          exact ⟨by simp, A', c', [], rfl, trivial, fun h => absurd h (by omega)⟩
        · rcases hor with ⟨hz, _⟩ | ⟨A, cap, sz', rfl, rfl, hcap⟩
          · omega
          · obtain ⟨cs, g1, g2, g3⟩ := aCells_sound hh hr hc
            exact ⟨g2, _, c', cs, rfl, g1, fun _ => ⟨_, rfl, g3⟩⟩
      · cases h
  | _ => cases h

theorem run_append_zero (w : World) {t ty e : TypeId} {i : TypeInfo} (ht : P.underlying t = some (.slice e)) (hi : P.info? e = some i) (A : Option Addr) (n c : Nat) (A2 : Option Addr) (c2 : Nat) (hn : n ≤ c) :
    (Builtin.append_ #[t, t] ty #[.slice A n c, .slice A2 0 c2]).run P w = .ok (.slice A n c) w := by
  cases A <;> cases A2 <;> simp [Builtin.append_, run_underlying ht, sizeOf, typeInfo, hi, Builtin.lenOf, hn, Builtin.firstCells, loadCells, loadCellsFrom, storeCells]

theorem L2.oneCell {xs : List Value} {cs : List Value} (h : L2 (CR ρ) xs cs) : ∀ u ∈ cs, u.oneCell' = true := by
  intro u hu
  obtain ⟨j, hj, hju⟩ := List.getElem_of_mem hu
  obtain ⟨x, _, hx⟩ := h.get' (i := j) (y := u) (by rw [List.getElem?_eq_getElem hj, hju])
  exact hx.one

/-- the cells of a block, and what they hold -/
theorem blk_cells (hh : HR ρ H w) {t : Nat} {b : Blk} {A : Addr} {cap sz : Nat} (hb : H.get t = some b) (ho : b.own = true) (hA : ρ t = some (.real A cap sz)) :
    ∃ cur : Array Value, A = ⟨A.block, A.off, none⟩ ∧ w.heap[A.block]? = some (.cells cur b.e (0, 0)) ∧ cur.size = A.off + cap ∧ sz = b.sz ∧ b.xs.length ≤ cap ∧ L2 (CR ρ) b.xs ((cur.toList.drop A.off).take b.xs.length) := by
  obtain ⟨a1, a2, a3, a4, a5⟩ := hh.blk t b _ hb hA
  obtain ⟨cur, e2, e3⟩ := a5 ho
  have hAe : A = ⟨A.block, A.off, none⟩ := addr_eq' a1
  refine ⟨cur, hAe, e2, e3, a2, a3, L2.of_get (by simp; omega) fun j x y hx hy => ?_⟩
  obtain ⟨cv, c1, c2⟩ := a4 j x hx
  rw [hAe, addr_addo, cell_of_row _ A.block (A.off + j) cur b.e (0, 0) e2] at c1
  rw [List.getElem?_take] at hy
  split at hy
  · rw [List.getElem?_drop] at hy
    have : cur[A.off + j]? = some y := by simpa using hy
    rw [this] at c1; cases c1; exact c2
  · cases hy
/-- cells that are written over -/
theorem put_cells {xs news cn : List Value} {cur : Array Value} {o p cap : Nat} (h : L2 (CR ρ) xs ((cur.toList.drop o).take xs.length)) (hn : L2 (CR ρ) news cn) (hp : p + news.length ≤ xs.length) (hc : cur.size = o + cap) (hl : xs.length ≤ cap) :
    ∀ (j : Nat) (v : Value), (xs.take p ++ news ++ xs.drop (p + news.length))[j]? = some v → ∃ cv, ((cur.toList.take (o + p) ++ cn ++ cur.toList.drop (o + p + cn.length)).toArray)[o + j]? = some cv ∧ CR ρ v cv := by
  intro j v hv
  have ln := hn.length
  have old : ∀ i u, xs[i]? = some u → ∃ cv, cur.toList[o + i]? = some cv ∧ CR ρ u cv := fun i u hu => by
    obtain ⟨cv, k1, k2⟩ := h.get hu
    rw [List.getElem?_take] at k1
    split at k1
    · rw [List.getElem?_drop] at k1; exact ⟨cv, k1, k2⟩
    · cases k1
  have l1 : (xs.take p).length = p := by rw [List.length_take]; omega
  have l2 : (cur.toList.take (o + p)).length = o + p := by rw [List.length_take, Array.length_toList]; omega
  simp only [List.getElem?_toArray, List.append_assoc] at hv ⊢
  by_cases h1 : j < p
  · rw [List.getElem?_append_left (by omega), List.getElem?_take, if_pos h1] at hv
    rw [List.getElem?_append_left (by omega), List.getElem?_take, if_pos (by omega)]
    exact old j v hv
  · rw [List.getElem?_append_right (by omega), l1] at hv
    rw [List.getElem?_append_right (by omega), l2, show o + j - (o + p) = j - p by omega]
    by_cases h2 : j - p < news.length
    · rw [List.getElem?_append_left h2] at hv
      rw [List.getElem?_append_left (by omega)]
      exact hn.get hv
    · rw [List.getElem?_append_right (by omega), List.getElem?_drop] at hv
      rw [List.getElem?_append_right (by omega), List.getElem?_drop, show o + p + cn.length + (j - p - cn.length) = o + (p + news.length + (j - p - news.length)) by omega]
      exact old _ v hv

theorem sl_mk {ρ' : Rho} {t n c' : Nat} {A : Addr} {cap sz : Nat} (hr : ρ' t = some (.real A cap sz)) (hn : n ≤ c') (hm : c' ≤ maxLen) (hc : c' * sz = cap) (c : Nat) :
    SV ρ' (.slice (some ⟨t, 0, none⟩) n c) (.slice (some A) n c') :=
  show SlR ρ' _ n _ from ⟨rfl, _, some A, c', hr, rfl, hn, hm, .inr ⟨A, cap, sz, rfl, by rw [Addr.add_zero'], by simpa using hc⟩⟩

/-- the room that an append may take -/
def fitsB (n m bytes : Nat) : Prop := (n + m) * bytes ≤ 140737488355328 ∧ n + m ≤ maxLen

section
variable {P : Program}
theorem run_append_roomO (w : World) (t ty e : TypeId) (i : TypeInfo) (ht : P.underlying t = some (.slice e)) (hi : P.info? e = some i)
    (g off sLen sCap : Nat) (cur : Array Value) (hg : w.heap[g]? = some (.cells cur e (0, 0)))
    (a : Addr) (m c : Nat) (news : List Value) (hl : news.length = m * i.size) (hnews : ∀ j u, news[j]? = some u → w.cell? (a.add j) = some u) (h1 : ∀ u ∈ news, u.oneCell' = true)
    (hroom : sLen + m ≤ sCap) (hfit : off + sLen * i.size + news.length ≤ cur.size) :
    (Builtin.append_ #[t, t] ty #[.slice (some ⟨g, off, none⟩) sLen sCap, .slice (some a) m c]).run P w =
      .ok (.slice (some ⟨g, off, none⟩) (sLen + m) sCap) (w.setRow g (cur.toList.take (off + sLen * i.size) ++ news ++ cur.toList.drop (off + sLen * i.size + news.length)).toArray) := by
  have hf := run_firstCells_some (P := P) w i.size m a m c news hl hnews
  have hst := run_storeCells_at P g (off + sLen * i.size) e news 0 cur w hg (by simpa using hfit) h1
  simp only [Nat.add_zero] at hst
  simp [Builtin.append_, run_underlying ht, sizeOf, typeInfo, hi, Builtin.lenOf, hroom, hf, Addr.add_lit, hst]
end
/-- a block's end -/
def Loc.cut (L : Loc) (off : Nat) : Loc := match L with | .virt => .virt | .real A cap sz => .real (A.add off) (cap - off) sz
/-- append onto the end of a row of one's own -/
theorem append_sound (hh : HR ρ H w) {t ty e : TypeId} {sz bytes : Nat} (hT : appT P t = some (e, sz, bytes)) {tg off n c : Nat} {cs : Value} (hs : SV ρ (.slice (some ⟨tg, off, none⟩) n c) cs)
    {b : Blk} (hb : H.get tg = some b) (ho : b.own = true) (hbe : b.e = e) (hbs : b.sz = sz) (hbl : b.xs.length = off + n * sz)
    {x cx : Value} {m : Nat} {news : List Value} (hx : SV ρ x cx) (hel : aElems H sz x = some (m, news)) (hfit : fitsB n m bytes) :
    ∃ cv ρ' w', (Builtin.append_ #[t, t] ty #[cs, cx]).run P w = .ok cv w' ∧ SV ρ' (.slice (some ⟨H.length, 0, none⟩) (n + m) (n + m)) cv ∧ ρ.le ρ' ∧
      HR ρ' (H.set tg none ++ [some ⟨b.xs.drop off ++ news, true, e, sz⟩]) w' ∧ Ext ρ H w ρ' (H.set tg none ++ [some ⟨b.xs.drop off ++ news, true, e, sz⟩]) w' := by
  obtain ⟨i, z, ht, hi, hz, hsize, hby, hzs, hpos⟩ := appT_spec hT
  obtain ⟨hnl, A2, c2, cn, rfl, hcn, hcells⟩ := aElems_sound hh hx hel
  obtain ⟨_, L0, A', c', hL0, rfl, hnc, hcm, hor⟩ := SV_slice hs
  simp only at hL0 hor
  obtain ⟨hb1, hb2⟩ := hfit
  have hmax : n + m ≤ 9223372036854775807 := by simp only [maxLen] at hb2; omega
  have hxl : (b.xs.drop off).length = n * sz := by rw [List.length_drop]; omega
  -- nothing appended
  rcases Nat.eq_zero_or_pos m with hm0 | hm0
  · subst hm0
    have hn0 : news = [] := List.eq_nil_of_length_eq_zero (by simpa using hnl)
    subst hn0
    have hrun := run_append_zero (P := P) w (ty := ty) ht hi A' n c' A2 c2 hnc
    have hle := upd_le hh (Loc.cut L0 off)
    have hblk := hh.blk tg b L0 hb hL0
    have hoff : ∀ A cap sz0, L0 = .real A cap sz0 → off ≤ cap := by
      rintro A cap sz0 rfl
      have := hblk.2.2.1
      omega
    obtain ⟨g1, g2⟩ := regrow_sound hh hb ho hL0 (w' := w) rfl rfl rfl (Nat.le_refl _) (fun _ _ _ => rfl) (b' := ⟨b.xs.drop off ++ [], true, e, sz⟩) (L := (Loc.cut L0 off)) rfl
      (by
        have := hblk.mono hle (w' := w) (fun _ _ _ _ _ => rfl)
        cases L0 with
        | virt => show b.xs.drop off ++ [] = []; rw [show b.xs = [] from this]; simp
        | real A cap sz0 =>
          obtain ⟨a1, a2, a3, a4, a5⟩ := this
          refine ⟨add_spot _ _ a1, a2.trans hbs, by simp only [List.append_nil, List.length_drop]; omega, fun j v hv => ?_, fun _ => ?_⟩
          · simp only [List.append_nil, List.getElem?_drop] at hv
            rw [add_add]
            exact a4 _ v hv
          · obtain ⟨cur, e1, e2⟩ := a5 ho
            refine ⟨cur, by rw [add_block, ← hbe]; exact e1, ?_⟩
            rw [add_off, e2]
            have := hoff _ _ _ rfl
            omega)
      (by
        intro A cap sz0 e1
        cases L0 with
        | virt => cases e1
        | real A0 c0 s0 => cases e1; exact .inr ⟨_, _, _, rfl, add_block _ _⟩)
    refine ⟨_, _, w, hrun, ?_, hle, g1, g2⟩
    refine show SlR _ _ _ _ from ⟨rfl, _, A', c', upd_new, rfl, hnc, hcm, ?_⟩
    rcases hor with ⟨h0, h1⟩ | ⟨A, cap, sz0, rfl, e1, e2⟩
    · refine .inl ⟨h0, fun A cap sz0 e1 => ?_⟩
      cases L0 with
      | virt => cases e1
      | real A0 c0 s0 =>
        cases e1
        have := h1 _ _ _ rfl
        simp only
        omega
    · exact .inr ⟨_, _, _, rfl, by rw [e1, Addr.add_zero'], by simp only; omega⟩
  · obtain ⟨a2, rfl, hcells2⟩ := hcells hm0
    clear hcells
    have hcnl : cn.length = m * i.size := by rw [← hcn.length, hnl, hsize]
    -- the new block
    have fin : ∀ (olds : List Value) (old : Nat), L2 (CR ρ) (b.xs.drop off) olds → old < n + m →
        (Builtin.append_ #[t, t] ty #[.slice A' n c', .slice (some a2) m c2]).run P w = .ok (.slice (some ⟨w.heap.size, 0, none⟩) (n + m) (grownCap w (n + m) old e))
          (w.drew.alloc (.cells (olds.toArray ++ cn.toArray ++ Builtin.zeroCells z.cells (grownCap w (n + m) old e - (n + m))) e)) →
        ∃ cv ρ' w', (Builtin.append_ #[t, t] ty #[.slice A' n c', .slice (some a2) m c2]).run P w = .ok cv w' ∧ SV ρ' (.slice (some ⟨H.length, 0, none⟩) (n + m) (n + m)) cv ∧ ρ.le ρ' ∧
          HR ρ' (H.set tg none ++ [some ⟨b.xs.drop off ++ news, true, e, sz⟩]) w' ∧ Ext ρ H w ρ' (H.set tg none ++ [some ⟨b.xs.drop off ++ news, true, e, sz⟩]) w' := by
      intro olds old holds hlt hrun
      have hge := grownCap_ge w (n + m) old e
      have hcm' : grownCap w (n + m) old e ≤ maxLen := grownCap_le_maxLen w (n + m) old e hb2
      generalize hG : grownCap w (n + m) old e = G at *
      generalize hcur : olds.toArray ++ cn.toArray ++ Builtin.zeroCells z.cells (G - (n + m)) = cur at *
      have hol : olds.length = n * sz := by rw [← holds.length, hxl]
      have hcursz : cur.size = G * sz := by
        rw [← hcur]
        simp only [Array.size_append, List.size_toArray, size_zeroCells, hzs, hol, hcnl, hsize, ← Nat.add_mul]
        congr 1; omega
      have hle := upd_le hh (.real ⟨w.heap.size, 0, none⟩ cur.size sz)
      have hpre : L2 (CR ρ) (b.xs.drop off ++ news) (cur.toList.take (b.xs.drop off ++ news).length) := by
        have h1 : cur.toList.take (b.xs.drop off ++ news).length = olds ++ cn := by
          rw [← hcur]
          simp only [Array.toList_append, List.append_assoc]
          rw [← List.append_assoc]
          have : (b.xs.drop off ++ news).length = (olds ++ cn).length := by simp only [List.length_append, holds.length, hcn.length]
          rw [this]
          exact List.take_left
        rw [h1]
        exact holds.append hcn
      obtain ⟨g1, g2⟩ := regrow_sound hh hb ho hL0 (w' := w.drew.alloc (.cells cur e)) rfl rfl rfl (by simp) (fun k hk _ => alloc_old w.drew _ k hk) (b' := ⟨b.xs.drop off ++ news, true, e, sz⟩) (L := .real ⟨w.heap.size, 0, none⟩ cur.size sz) rfl
        (by
          have hnew : (w.drew.alloc (.cells cur e)).heap[w.heap.size]? = some (.cells cur e) := alloc_new w.drew _
          refine ⟨rfl, rfl, ?_, fun j v hv => ?_, fun _ => ⟨cur, hnew, by simp⟩⟩
          · have := hpre.length; simp only [List.length_take, Array.length_toList] at this; simp only; omega
          · obtain ⟨cv, c1, c2⟩ := hpre.get hv
            refine ⟨cv, ?_, c2.mono hle⟩
            rw [addr_add, cell_of_row _ w.heap.size j cur e (0, 0) hnew]
            rw [List.getElem?_take] at c1
            split at c1
            · simpa using c1
            · cases c1)
        (by rintro A cap sz0 e0; cases e0; exact .inl (Nat.le_refl _))
      exact ⟨_, _, _, hrun, sl_mk upd_new hge hcm' hcursz.symm _, hle, g1, g2⟩
    have hfits : ∀ old, old < n + m → Builtin.nextslicecap (n + m) old * i.bytes ≤ 281474976710656 := fun old ho => growslice_fits ho (by rw [hby]; exact hb1)
    by_cases hroom : n + m ≤ c'
    · -- there is room
      rcases hor with ⟨hz0, _⟩ | ⟨A, cap, sz0, rfl, rfl, hcap⟩
      · omega
      · obtain ⟨cur, hAe, hg, hcs, hsz0, hle0, hl2⟩ := blk_cells hh hb ho hL0
        have hcap' : off + c' * sz = cap := by rw [← hbs, ← hsz0]; exact hcap
        have hmul : (n + m) * sz ≤ c' * sz := Nat.mul_le_mul_right _ hroom
        rw [Nat.add_mul] at hmul
        have hlen2 : A.off + off + n * i.size + cn.length ≤ cur.size := by
          rw [hcnl, hcs, ← hcap', hsize]; omega
        have hAo : A.add off = ⟨A.block, A.off + off, none⟩ := by rw [hAe]; exact addr_addo _ _ _
        have hr := run_append_roomO (P := P) w t ty e i ht hi A.block (A.off + off) n c' cur (by rw [← hbe]; exact hg) a2 m c2 cn hcnl hcells2 hcn.oneCell hroom hlen2
        rw [← hAo] at hr
        generalize hcur' : (cur.toList.take (A.off + off + n * i.size) ++ cn ++ cur.toList.drop (A.off + off + n * i.size + cn.length)).toArray = cur' at *
        have hcs' : cur'.size = A.off + cap := by
          rw [← hcur', ← hcs]
          simp only [List.size_toArray, List.length_append, List.length_take, List.length_drop, Array.length_toList]
          omega
        have hle := upd_le hh (.real (A.add off) (cap - off) sz0)
        have hg' : w.heap[A.block]? = some (.cells cur e (0, 0)) := by rw [← hbe]; exact hg
        have hnew := setRow_heap w A.block cur cur' e (0, 0) hg'
        have hpre : ∀ j v, (b.xs.drop off ++ news)[j]? = some v → ∃ cv, cur'[A.off + off + j]? = some cv ∧ CR ρ v cv := by
          intro j v hv
          have old : ∀ i u, b.xs[i]? = some u → ∃ cv, cur.toList[A.off + i]? = some cv ∧ CR ρ u cv := fun i u hu => by
            obtain ⟨cv, k1, k2⟩ := hl2.get hu
            rw [List.getElem?_take] at k1
            split at k1
            · rw [List.getElem?_drop] at k1; exact ⟨cv, k1, k2⟩
            · cases k1
          rw [← hcur']
          simp only [List.getElem?_toArray, List.append_assoc]
          have l2 : (cur.toList.take (A.off + off + n * i.size)).length = A.off + off + n * i.size := by rw [List.length_take, Array.length_toList]; omega
          by_cases h1 : j < n * sz
          · rw [List.getElem?_append_left (by omega), List.getElem?_drop] at hv
            rw [List.getElem?_append_left (by rw [l2, hsize]; omega), List.getElem?_take, if_pos (by rw [hsize]; omega), Nat.add_assoc]
            exact old _ v hv
          · rw [List.getElem?_append_right (by omega), hxl] at hv
            rw [List.getElem?_append_right (by rw [l2, hsize]; omega), l2, hsize, show A.off + off + j - (A.off + off + n * sz) = j - n * sz by omega]
            obtain ⟨cv, k1, k2⟩ := hcn.get hv
            have hj : j - n * sz < cn.length := (List.getElem?_eq_some_iff.1 k1).1
            rw [List.getElem?_append_left hj]
            exact ⟨cv, k1, k2⟩
        obtain ⟨g1, g2⟩ := regrow_sound hh hb ho hL0 (w' := w.setRow A.block cur') rfl rfl rfl (by simp) (fun k hk hne => setRow_other w A.block k _ (hne A cap sz0 rfl)) (b' := ⟨b.xs.drop off ++ news, true, e, sz⟩) (L := .real (A.add off) (cap - off) sz0) rfl
          (by
            refine ⟨by rw [hAo], hsz0.trans hbs, ?_, fun j v hv => ?_, fun _ => ⟨cur', by rw [add_block]; exact hnew, by rw [add_off, hcs']; omega⟩⟩
            · simp only [List.length_append, hxl, hnl]; omega
            · obtain ⟨cv, c1, c2⟩ := hpre j v hv
              refine ⟨cv, ?_, c2.mono hle⟩
              rw [hAo, addr_addo, cell_of_row _ A.block (A.off + off + j) cur' e (0, 0) hnew]
              exact c1)
          (by rintro A1 cap1 sz1 e1; cases e1; exact .inr ⟨A, cap, sz0, rfl, add_block _ _⟩)
        refine ⟨_, _, _, hr, ?_, hle, g1, g2⟩
        exact sl_mk (upd_new (L := .real (A.add off) (cap - off) sz0)) hroom hcm (by rw [hsz0, hbs]; omega) _
    · -- it grows
      cases A' with
      | none =>
        have hc0 : c' = 0 := by
          rcases hor with ⟨h, _⟩ | ⟨A, _, _, _, e1, _⟩
          · exact h
          · cases e1
        subst hc0
        have hn0 : n = 0 := by omega
        subst hn0
        have hx0 : b.xs.drop off = [] := List.eq_nil_of_length_eq_zero (by simpa using hxl)
        have hr := run_append_nil (P := P) w t ty e i z ht hi hz a2 m c2 cn hcnl hcells2 hm0 (by omega) (by
          have := hb1; simp only [Nat.zero_add] at this; rw [hby]; omega)
        refine fin [] 0 (by rw [hx0]; trivial) (by omega) ?_
        simpa using hr
      | some A1 =>
        have hol : ∃ olds, L2 (CR ρ) (b.xs.drop off) olds ∧ ∀ j v, olds[j]? = some v → w.cell? (A1.add j) = some v := by
          rcases hor with ⟨h, _⟩ | ⟨A, cap, sz0, rfl, e1, hcap⟩
          · subst h
            have hn0 : n = 0 := by omega
            subst hn0
            have hx0 : b.xs.drop off = [] := List.eq_nil_of_length_eq_zero (by simpa using hxl)
            exact ⟨[], by rw [hx0]; trivial, fun j v h => by simp at h⟩
          · cases e1
            obtain ⟨cur, hAe, hg, hcs, hsz0, hle0, hl2⟩ := blk_cells hh hb ho hL0
            refine ⟨((cur.toList.drop A.off).take b.xs.length).drop off, L2.of_get (by have := hl2.length; simp only [List.length_drop] at this ⊢; omega) fun j x y hx hy => ?_, fun j v hv => ?_⟩
            · rw [List.getElem?_drop] at hx hy
              obtain ⟨cv, k1, k2⟩ := hl2.get hx
              rw [hy] at k1; cases k1; exact k2
            · rw [List.getElem?_drop, List.getElem?_take] at hv
              split at hv
              · rw [List.getElem?_drop] at hv
                rw [add_add, hAe, addr_addo, cell_of_row _ A.block (A.off + (off + j)) cur b.e (0, 0) hg]
                simpa using hv
              · cases hv
        obtain ⟨olds, ho1, ho2⟩ := hol
        have hr := run_append_grow (P := P) w t ty e i z ht hi hz A1 n c' olds (by rw [← ho1.length, hxl, hsize]) ho2 a2 m c2 cn hcnl hcells2 (by omega) (by omega) (hfits c' (by omega))
        exact fin olds c' ho1 (by omega) hr
/-- append within a row of one's own: what lies behind is written over -/
theorem append_in_sound (hh : HR ρ H w) {t ty e : TypeId} {sz bytes : Nat} (hT : appT P t = some (e, sz, bytes)) {tg off n c : Nat} {cs : Value} (hs : SV ρ (.slice (some ⟨tg, off, none⟩) n c) cs)
    {b : Blk} (hb : H.get tg = some b) (ho : b.own = true) (hbe : b.e = e) (hbs : b.sz = sz)
    {x cx : Value} {m : Nat} {news : List Value} (hx : SV ρ x cx) (hel : aElems H sz x = some (m, news)) (hbl : off + (n + m) * sz ≤ b.xs.length) :
    ∃ cv w', (Builtin.append_ #[t, t] ty #[cs, cx]).run P w = .ok cv w' ∧ SV ρ (.slice (some ⟨tg, off, none⟩) (n + m) c) cv ∧
      HR ρ (H.set tg (some { b with xs := b.xs.take (off + n * sz) ++ news ++ b.xs.drop (off + (n + m) * sz) })) w' ∧ Ext ρ H w ρ (H.set tg (some { b with xs := b.xs.take (off + n * sz) ++ news ++ b.xs.drop (off + (n + m) * sz) })) w' := by
  obtain ⟨i, z, ht, hi, hz, hsize, hby, hzs, hpos⟩ := appT_spec hT
  obtain ⟨hnl, A2, c2, cn, rfl, hcn, hcells⟩ := aElems_sound hh hx hel
  obtain ⟨_, L0, A', c', hL0, rfl, hnc, hcm, hor⟩ := SV_slice hs
  rcases Nat.eq_zero_or_pos m with hm0 | hm0
  · subst hm0
    have hn0 : news = [] := List.eq_nil_of_length_eq_zero (by simpa using hnl)
    subst hn0
    have hrun := run_append_zero (P := P) w (ty := ty) ht hi A' n c' A2 c2 hnc
    have he : H.set tg (some { b with xs := b.xs.take (off + n * sz) ++ [] ++ b.xs.drop (off + (n + 0) * sz) }) = H := by
      rw [Nat.add_zero, List.append_nil, List.take_append_drop]
      exact Heap.set_self hb
    rw [he]
    exact ⟨_, w, hrun, show SlR _ _ _ _ from ⟨rfl, L0, A', c', hL0, rfl, hnc, hcm, hor⟩, hh, Ext.refl _ _ _⟩
  simp only at hL0 hor
  obtain ⟨a2, rfl, hcells2⟩ := hcells hm0
  have hcnl : cn.length = m * i.size := by rw [← hcn.length, hnl, hsize]
  have hmp : 0 < (n + m) * sz := Nat.mul_pos (by omega) hpos
  have hblk := hh.blk tg b L0 hb hL0
  rcases hor with ⟨h0, h1⟩ | ⟨A, cap, sz0, rfl, rfl, hcap⟩
  · exfalso
    cases L0 with
    | virt =>
      rw [show b.xs = [] from hblk] at hbl
      simp only [List.length_nil] at hbl
      omega
    | real A cap sz0 =>
      have := h1 _ _ _ rfl
      have := hblk.2.2.1
      omega
  · obtain ⟨cur, hAe, hg, hcs, hsz0, hle0, hl2⟩ := blk_cells hh hb ho hL0
    have hcap' : off + c' * sz = cap := by rw [← hbs, ← hsz0]; exact hcap
    have hroom : n + m ≤ c' := Nat.le_of_mul_le_mul_right (show (n + m) * sz ≤ c' * sz by omega) hpos
    have hmul : (n + m) * sz = n * sz + m * sz := Nat.add_mul _ _ _
    have hlen2 : A.off + off + n * i.size + cn.length ≤ cur.size := by
      rw [hcnl, hcs, hsize]; omega
    have hAo : A.add off = ⟨A.block, A.off + off, none⟩ := by rw [hAe]; exact addr_addo _ _ _
    have hr := run_append_roomO (P := P) w t ty e i ht hi A.block (A.off + off) n c' cur (by rw [← hbe]; exact hg) a2 m c2 cn hcnl hcells2 hcn.oneCell hroom hlen2
    rw [← hAo] at hr
    have put := put_cells (p := off + n * sz) hl2 hcn (by omega) hcs hle0
    have e1 : off + n * sz + news.length = off + (n + m) * sz := by rw [hnl, hmul]; omega
    rw [e1] at put
    rw [show A.off + (off + n * sz) = A.off + off + n * i.size by rw [hsize]; omega] at put
    generalize hcur' : (cur.toList.take (A.off + off + n * i.size) ++ cn ++ cur.toList.drop (A.off + off + n * i.size + cn.length)).toArray = cur' at *
    have hcs' : cur'.size = A.off + cap := by
      rw [← hcur', ← hcs]
      simp only [List.size_toArray, List.length_append, List.length_take, List.length_drop, Array.length_toList]
      omega
    obtain ⟨g1, g2⟩ := store_sound hh hb ho hL0 hg (xs' := b.xs.take (off + n * sz) ++ news ++ b.xs.drop (off + (n + m) * sz)) (cur' := cur')
      (by simp only [List.length_append, List.length_take, List.length_drop, hnl]; omega) hcs' put
    exact ⟨_, _, hr, show SlR _ _ _ _ from ⟨rfl, _, _, c', hL0, rfl, hroom, hcm, .inr ⟨A, cap, sz0, rfl, rfl, hcap⟩⟩, g1, g2⟩

end
end Go.Am
