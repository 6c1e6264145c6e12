/- Walks, in plain Lean: what is connected, and that an order's walk succeeds if one does. -/
import Derived.Test.YtkjgmppcgcimgaaWalk
namespace Go.Proofs.Ytkjgmppcgcimgaa
open Go.Am
set_option linter.unusedVariables false
set_option linter.unusedSimpArgs false

section
variable {n : Nat} {ps : List Pp}
theorem Bfs.finish (hN : NetAt n ps) {src : Int} (hs : 1 ≤ src ∧ src ≤ n) : ∀ (m : Nat) (d q : List Int), 2 * (n + 1 - known d) + q.length ≤ m → Bfs n ps src d q → ∃ d', Bfs n ps src d' []
  | m, d, [], _, h => ⟨d, h⟩
  | 0, d, x :: r, hm, h => by simp at hm
  | m + 1, d, x :: r, hm, h => by
    by_cases hd : ∀ i, i < ps.length → ∀ v, otherOf (ps.getD i pp0) x = v → 0 < v → 0 ≤ d.getD v.toNat 0
    · exact Bfs.finish hN hs m d r (by simp at hm ⊢; omega) (h.pop hd)
    · simp only [Classical.not_forall] at hd
      obtain ⟨i, hi, v, ho, hv, hd⟩ := hd
      obtain ⟨h1, h2⟩ := h.found hN hs hi ho hv (by omega)
      have hk := known_le (d.set v.toNat (d.getD x.toNat 0 + 1))
      rw [h1.len] at hk
      exact Bfs.finish hN hs m _ _ (by simp only [List.length_append, List.length_cons, List.length_nil] at hm ⊢; omega) h1
theorem distN_conn (hN : NetAt n ps) {src : Int} (hs : 1 ≤ src ∧ src ≤ n) {v : Int} {k : Nat} (h : rB ps src k v = true) : 0 ≤ distN n ps src v := by
  obtain ⟨d, hB⟩ := Bfs.finish hN hs _ _ _ (Nat.le_refl _) (Bfs.start (ps := ps) hs)
  have hd := hB.end_ hN hs
  have hr := rB_rng hN hs k v h
  have h2 : 0 ≤ d.getD v.toNat 0 := by
    have : ∀ j : Nat, ∀ v, rB ps src j v = true → 0 ≤ d.getD v.toNat 0 := by
      intro j
      induction j with
      | zero =>
        intro v hv
        have : v = src := of_decide_eq_true hv
        rw [this, hB.src0]; exact Int.le_refl _
      | succ j ih =>
        intro v hv
        rcases rB_succ.1 hv with hv' | ⟨i, hi, hv'⟩
        · exact ih v hv'
        · have hvr := rB_rng hN hs _ v hv
          have hne := hN.f_ne i hi
          obtain ⟨u, hu, ho⟩ : ∃ u, rB ps src j u = true ∧ otherOf (ps.getD i pp0) u = v := by
            rcases hv' with ⟨e, hv'⟩ | ⟨e, hv'⟩
            · exact ⟨_, hv', by unfold otherOf; rw [if_neg (fun e2 => hne e2.symm), if_pos rfl]; exact e⟩
            · exact ⟨_, hv', by unfold otherOf; rw [if_pos rfl]; exact e⟩
          have hur := rB_rng hN hs j u hu
          rcases hB.done u hur.1 hur.2 (ih u hu) with hq | hd
          · cases hq
          · exact hd i hi v ho (by omega)
    exact this k v h
  rw [hd, List.getD_eq_getElem?_getD, List.getElem?_map, List.getElem?_range (by omega)] at h2
  simp only [Option.map_some, Option.getD_some] at h2
  rwa [Int.toNat_of_nonneg (by omega)] at h2
theorem conn_distN {src v : Int} (h : 0 ≤ distN n ps src v) : ∃ k, rB ps src k v = true := by
  rcases Classical.em (∃ k, rB ps src k v = true) with h' | h'
  · exact h'
  · exfalso
    have : distN n ps src v = -1 := firstK_no (n + 1) 0 fun j _ _ => by
      cases e : rB ps src j v
      · rfl
      · exact absurd ⟨j, e⟩ h'
    omega
def Conn (ps : List Pp) (u v : Int) : Prop := ∃ k, rB ps u k v = true
theorem Conn.refl (ps : List Pp) (u : Int) : Conn ps u u := ⟨0, by rw [rB]; exact decide_eq_true rfl⟩
theorem conn_trans {u w : Int} {j : Nat} (h1 : rB ps u j w = true) : ∀ k v, rB ps w k v = true → rB ps u (j + k) v = true
  | 0, v, h => by
    have : v = w := of_decide_eq_true h
    rw [this]; exact h1
  | k + 1, v, h => by
    rw [← Nat.add_assoc, rB_succ]
    rcases rB_succ.1 h with h | ⟨i, hi, h⟩
    · exact .inl (conn_trans h1 k v h)
    · refine .inr ⟨i, hi, ?_⟩
      rcases h with ⟨e, h⟩ | ⟨e, h⟩
      · exact .inl ⟨e, conn_trans h1 k _ h⟩
      · exact .inr ⟨e, conn_trans h1 k _ h⟩
theorem Conn.trans {u v w : Int} (h1 : Conn ps u v) (h2 : Conn ps v w) : Conn ps u w := by
  obtain ⟨j, h1⟩ := h1
  obtain ⟨k, h2⟩ := h2
  exact ⟨j + k, conn_trans h1 k w h2⟩
theorem conn_symm {u : Int} : ∀ k v, rB ps u k v = true → Conn ps v u
  | 0, v, h => by
    have : v = u := of_decide_eq_true h
    rw [this]; exact Conn.refl ps u
  | k + 1, v, h => by
    rcases rB_succ.1 h with h | ⟨i, hi, h⟩
    · exact conn_symm k v h
    · have z : ∀ x, rB ps x 0 x = true := fun x => by rw [rB]; exact decide_eq_true rfl
      rcases h with ⟨e, h⟩ | ⟨e, h⟩
      · exact Conn.trans ⟨1, rB_succ.2 (.inr ⟨i, hi, .inr ⟨rfl, by rw [e]; exact z v⟩⟩)⟩ (conn_symm k _ h)
      · exact Conn.trans ⟨1, rB_succ.2 (.inr ⟨i, hi, .inl ⟨rfl, by rw [e]; exact z v⟩⟩)⟩ (conn_symm k _ h)
theorem Conn.symm {u v : Int} (h : Conn ps u v) : Conn ps v u := by
  obtain ⟨k, h⟩ := h
  exact conn_symm k v h
variable {l : List Tk} {src : Int} {a : List Int}
theorem stepW_conn {f to : Int} (h : 0 ≤ stepW n ps f to) : Conn ps f to := by
  unfold stepW at h
  split at h
  · exact conn_distN h
  · omega
theorem wk_conn : ∀ k s f, wk n ps l src a k = some (s, f) → Conn ps src f ∧ ∀ j, j < k → Conn ps src (nodeW l (a.getD j 0))
  | 0, s, f, h => by
    simp only [wk, Option.some.injEq, Prod.mk.injEq] at h
    exact ⟨h.2 ▸ Conn.refl ps src, fun j hj => absurd hj (Nat.not_lt_zero _)⟩
  | k + 1, s, f, h => by
    cases e : wk n ps l src a k with
    | none => rw [wk_le e (Nat.le_succ k)] at h; cases h
    | some p =>
      obtain ⟨s0, f0⟩ := p
      obtain ⟨h1, h2⟩ := wk_conn k s0 f0 e
      by_cases hlt : stepW n ps f0 (nodeW l (a.getD k 0)) < 0
      · rw [wk_stop e hlt] at h; cases h
      · rw [wk_go e hlt] at h
        simp only [Option.some.injEq, Prod.mk.injEq] at h
        have hc := h1.trans (stepW_conn (by omega : 0 ≤ stepW n ps f0 (nodeW l (a.getD k 0))))
        refine ⟨h.2 ▸ hc, fun j hj => ?_⟩
        rcases Nat.lt_or_ge j k with hj' | hj'
        · exact h2 j hj'
        · rw [show j = k by omega]; exact hc
theorem wk_ok (hN : NetAt n ps) (hs : 1 ≤ src ∧ src ≤ n) : ∀ k, (∀ j, j < k → 1 ≤ nodeW l (a.getD j 0) ∧ nodeW l (a.getD j 0) ≤ n ∧ Conn ps src (nodeW l (a.getD j 0))) → ∃ s f, wk n ps l src a k = some (s, f)
  | 0, _ => ⟨0, src, rfl⟩
  | k + 1, h => by
    obtain ⟨s, f, e⟩ := wk_ok hN hs k fun j hj => h j (by omega)
    obtain ⟨h1, h2, h3⟩ := h k (by omega)
    have hf := wk_rng hs k s f e
    obtain ⟨j, hj⟩ := (wk_conn k s f e).1.symm.trans h3
    have h0 := distN_conn hN ⟨hf.2.2.1, hf.2.2.2⟩ hj
    refine ⟨_, _, wk_go e ?_⟩
    rw [stepW_in (by simp only [inB, Bool.and_eq_true, decide_eq_true_eq]; omega)]
    omega
/-- if the walk in order succeeds, every walk does -/
theorem walkZ_all (hN : NetAt n ps) (hs : 1 ≤ src ∧ src ≤ n) (hT : ∀ i, i < l.length → 1 ≤ (l.getD i (0, 0, 0)).2.1 ∧ (l.getD i (0, 0, 0)).2.1 ≤ n) (hz : 0 ≤ walkZ n ps l src (ordL l.length)) (ha : ∀ k, k < a.length → 0 ≤ a.getD k 0 ∧ a.getD k 0 < l.length) : 0 ≤ walkZ n ps l src a := by
  have hc : ∀ i, i < l.length → Conn ps src (l.getD i (0, 0, 0)).2.1 := by
    cases e : wk n ps l src (ordL l.length) (ordL l.length).length with
    | none => rw [walkZ_none e] at hz; omega
    | some p =>
      obtain ⟨s, f⟩ := p
      intro i hi
      have := (wk_conn _ s f e).2 i (by rw [ordL_length]; exact hi)
      rwa [ordL_getD hi, nodeW, Int.toNat_natCast] at this
  obtain ⟨s, f, e⟩ := wk_ok (l := l) (a := a) hN hs a.length fun j hj => by
    obtain ⟨h1, h2⟩ := ha j hj
    have := hT (a.getD j 0).toNat (by omega)
    exact ⟨this.1, this.2, hc _ (by omega)⟩
  rw [walkZ_some e]
  exact (wk_rng hs _ _ _ e).1
end
abbrev Bwk := List Int × Int
def wTo (rec : List Int → Bwk → Bwk) (a : List Int) (s : Bwk) : Nat → Bwk
  | 0 => s
  | k + 1 => if hasI a k = true then wTo rec a s k else rec (a ++ [(k : Int)]) (wTo rec a s k)
def wEnd (m : Nat) (w : List Int → Int) (a : List Int) (s : Bwk) : Bwk := if a.length < m then s else if s.2 < 0 ∨ w a < s.2 then (a, w a) else s
/-- the program's search -/
def visW (m : Nat) (w : List Int → Int) : Nat → List Int → Bwk → Bwk
  | 0, _, s => s
  | f + 1, a, s => wEnd m w a (wTo (visW m w f) a s m)
def tTo (rec : List Int → Bwk) (a : List Int) : Nat → Bwk
  | 0 => ([], -1)
  | k + 1 => if hasI a k = true then tTo rec a k else if (tTo rec a k).2 < 0 ∨ (rec (a ++ [(k : Int)])).2 < (tTo rec a k).2 then rec (a ++ [(k : Int)]) else tTo rec a k
/-- the reference's recursion -/
def tourW (m : Nat) (w : List Int → Int) : Nat → List Int → Bwk
  | 0, _ => ([], -1)
  | f + 1, a => if a.length = m then (a, w a) else tTo (tourW m w f) a m
def cmbW (q s : Bwk) : Bwk := if q.2 < 0 then s else if s.2 < 0 ∨ q.2 < s.2 then q else s
theorem cmbW_neg {q s : Bwk} (h : q.2 < 0) : cmbW q s = s := if_pos h
theorem cmbW_yes {q s : Bwk} (h : 0 ≤ q.2) (h2 : s.2 < 0 ∨ q.2 < s.2) : cmbW q s = q := by
  unfold cmbW; rw [if_neg (by omega), if_pos h2]
theorem cmbW_no {q s : Bwk} (h2 : ¬ (s.2 < 0 ∨ q.2 < s.2)) : cmbW q s = s := by
  unfold cmbW
  by_cases h : q.2 < 0
  · rw [if_pos h]
  · rw [if_neg h, if_neg h2]
theorem cmbW_cmbW {q r s : Bwk} (hq : 0 ≤ q.2) : cmbW q (cmbW r s) = cmbW (if r.2 < 0 ∨ q.2 < r.2 then q else r) s := by
  by_cases h2 : r.2 < 0
  · rw [cmbW_neg h2, if_pos (.inl h2)]
  · by_cases h3 : q.2 < r.2
    · rw [if_pos (.inr h3)]
      by_cases h4 : s.2 < 0 ∨ r.2 < s.2
      · rw [cmbW_yes (q := r) (by omega) h4, cmbW_yes (s := s) hq (by omega), cmbW_yes hq (.inr h3)]
      · rw [cmbW_no h4]
    · rw [if_neg (by omega)]
      by_cases h4 : s.2 < 0 ∨ r.2 < s.2
      · rw [cmbW_yes (q := r) (by omega) h4, cmbW_no (by omega)]
      · rw [cmbW_no (q := r) h4, cmbW_no (by omega)]
theorem permW_of_sub : ∀ {a b : List Int}, a.Nodup → (∀ x ∈ a, x ∈ b) → b.length ≤ a.length → a.Perm b
  | [], b, _, _, h => by
    have : b = [] := List.length_eq_zero_iff.1 (by simpa using h)
    rw [this]
  | x :: a, b, hn, hs, hl => by
    have hn' := List.pairwise_cons.1 hn
    obtain ⟨s, t, rfl⟩ := List.append_of_mem (hs x (by simp))
    have : a.Perm (s ++ t) := permW_of_sub hn'.2 (fun y hy => by
      have := hs y (List.mem_cons_of_mem _ hy)
      rcases List.mem_append.1 this with h | h
      · exact List.mem_append_left _ h
      · rcases List.mem_cons.1 h with rfl | h
        · exact absurd rfl (hn'.1 y hy)
        · exact List.mem_append_right _ h) (by simp at hl ⊢; omega)
    exact (List.Perm.cons x this).trans List.perm_middle.symm
/-- orders that are begun -/
structure GoodW (m : Nat) (a : List Int) : Prop where
  g_nd : a.Nodup
  g_in : ∀ x ∈ a, 0 ≤ x ∧ x < m
theorem mem_ordL {m : Nat} {x : Int} : x ∈ ordL m ↔ 0 ≤ x ∧ x < m := by
  simp only [ordL, List.mem_map, List.mem_range]
  constructor
  · rintro ⟨i, hi, rfl⟩; omega
  · intro h; exact ⟨x.toNat, by omega, by omega⟩
theorem GoodW.le {m : Nat} {a : List Int} (h : GoodW m a) : a.length ≤ m := by
  rcases Nat.lt_or_ge m a.length with h' | h'
  · have := (permW_of_sub h.g_nd (fun x hx => mem_ordL.2 (h.g_in x hx)) (by rw [ordL_length]; omega)).length_eq
    rw [ordL_length] at this
    omega
  · exact h'
theorem GoodW.all {m : Nat} {a : List Int} (h : GoodW m a) (hl : a.length = m) {k : Nat} (hk : k < m) : hasI a k = true :=
  decide_eq_true ((permW_of_sub h.g_nd (fun x hx => mem_ordL.2 (h.g_in x hx)) (by rw [ordL_length]; omega)).mem_iff.2 (mem_ordL.2 (by omega)))
theorem GoodW.some {m : Nat} {a : List Int} (h : GoodW m a) (hl : a.length < m) : ∃ k, k < m ∧ hasI a (k : Nat) = false := by
  rcases Classical.em (∃ k, k < m ∧ hasI a (k : Nat) = false) with h' | h'
  · exact h'
  · exfalso
    have hsub : ∀ x ∈ ordL m, x ∈ a := fun x hx => by
      have hx := mem_ordL.1 hx
      cases e : hasI a x with
      | true => exact of_decide_eq_true e
      | false => exact absurd ⟨x.toNat, by omega, by rw [Int.toNat_of_nonneg hx.1]; exact e⟩ h'
    have hnd : (ordL m).Nodup := by
      unfold ordL
      exact List.pairwise_map.2 (List.nodup_range.imp fun h e => h (Int.ofNat.inj e))
    have := (permW_of_sub hnd hsub (by rw [ordL_length]; omega)).length_eq
    rw [ordL_length] at this
    omega
theorem GoodW.snoc {m : Nat} {a : List Int} (h : GoodW m a) {k : Nat} (hk : k < m) (hn : hasI a k = false) : GoodW m (a ++ [(k : Int)]) := by
  refine ⟨List.pairwise_append.2 ⟨h.g_nd, List.pairwise_singleton _ _, fun x hx y hy e => ?_⟩, fun x hx => ?_⟩
  · rw [List.mem_singleton.1 hy] at e
    exact of_decide_eq_false hn (e ▸ hx)
  · rcases List.mem_append.1 hx with hx | hx
    · exact h.g_in x hx
    · rw [List.mem_singleton.1 hx]; omega
theorem GoodW.at {m : Nat} {a : List Int} (h : GoodW m a) (hm : m ≤ 7) : AtOrd m a := by
  refine ⟨Nat.le_trans h.le hm, fun k hk => ?_⟩
  rw [List.getD_eq_getElem?_getD, List.getElem?_eq_getElem hk]
  exact h.g_in _ (List.getElem_mem hk)
theorem tTo_pos {m : Nat} {rec : List Int → Bwk} {a : List Int} : ∀ k : Nat, (∀ j, j < k → hasI a (j : Nat) = false → 0 ≤ (rec (a ++ [(j : Int)])).2) → (∃ j, j < k ∧ hasI a (j : Nat) = false) → 0 ≤ (tTo rec a k).2
  | 0, _, h => by obtain ⟨j, hj, _⟩ := h; exact absurd hj (Nat.not_lt_zero _)
  | k + 1, h, hj => by
    rw [tTo]
    cases hk : hasI a (k : Nat) with
    | true =>
      rw [if_pos rfl]
      obtain ⟨j, hj, hn⟩ := hj
      refine tTo_pos (m := m) k (fun j hj => h j (by omega)) ⟨j, ?_, hn⟩
      rcases Nat.lt_or_ge j k with h' | h'
      · exact h'
      · rw [show j = k by omega, hk] at hn; cases hn
    | false =>
      rw [if_neg Bool.false_ne_true]
      have h1 := h k (by omega) hk
      split
      · exact h1
      · omega
theorem vis_tour {m : Nat} {w : List Int → Int} (hw : ∀ a, GoodW m a → 0 ≤ w a) : ∀ (f : Nat) (a : List Int), GoodW m a → m - a.length < f → 0 ≤ (tourW m w f a).2 ∧ ∀ s, visW m w f a s = cmbW (tourW m w f a) s
  | 0, a, hg, h => absurd h (Nat.not_lt_zero _)
  | f + 1, a, hg, hf => by
    have hle := hg.le
    rw [tourW]
    by_cases hl : a.length = m
    · rw [if_pos hl]
      refine ⟨hw a hg, fun s => ?_⟩
      have hto : ∀ k, k ≤ m → wTo (visW m w f) a s k = s := by
        intro k hk
        induction k with
        | zero => rfl
        | succ k ih => rw [wTo, if_pos (hg.all hl (by omega)), ih (by omega)]
      rw [visW, hto m (Nat.le_refl _), wEnd, if_neg (by omega)]
      by_cases h : s.2 < 0 ∨ w a < s.2
      · rw [if_pos h, cmbW_yes (hw a hg) h]
      · rw [if_neg h, cmbW_no h]
    · rw [if_neg hl]
      have ih : ∀ k, k < m → hasI a (k : Nat) = false → 0 ≤ (tourW m w f (a ++ [(k : Int)])).2 ∧ ∀ s, visW m w f (a ++ [(k : Int)]) s = cmbW (tourW m w f (a ++ [(k : Int)])) s := fun k hk hn =>
        vis_tour hw f _ (hg.snoc hk hn) (by simp; omega)
      refine ⟨tTo_pos (m := m) m (fun j hj hn => (ih j hj hn).1) (hg.some (by omega)), fun s => ?_⟩
      have hto : ∀ k, k ≤ m → wTo (visW m w f) a s k = cmbW (tTo (tourW m w f) a k) s := by
        intro k hk
        induction k with
        | zero => rfl
        | succ k ihk =>
          rw [wTo, tTo, ihk (by omega)]
          cases hn : hasI a (k : Nat) with
          | true => rw [if_pos rfl, if_pos rfl]
          | false =>
            rw [if_neg Bool.false_ne_true, if_neg Bool.false_ne_true, (ih k (by omega) hn).2]
            exact cmbW_cmbW (ih k (by omega) hn).1
      rw [visW, hto m (Nat.le_refl _), wEnd, if_pos (by omega)]
def bestW (m : Nat) (w : List Int → Int) : Bwk := tourW m w (m + 1) []
theorem goodW_nil (m : Nat) : GoodW m [] := ⟨List.Pairwise.nil, fun x h => absurd h (by simp)⟩
theorem vis_bestW {m : Nat} {w : List Int → Int} (hw : ∀ a, GoodW m a → 0 ≤ w a) : visW m w (m + 1) [] ([], -1) = bestW m w := by
  obtain ⟨h1, h2⟩ := vis_tour hw (m + 1) [] (goodW_nil m) (by simp)
  rw [h2, cmbW_yes h1 (.inl (by simp))]; rfl
theorem tTo_len {rec : List Int → Bwk} {a : List Int} {B : Nat} (h : ∀ b, (rec b).1.length ≤ B) : ∀ k, (tTo rec a k).1.length ≤ B
  | 0 => by simp [tTo]
  | k + 1 => by
    have ih := tTo_len (a := a) h k
    rw [tTo]
    split
    · exact ih
    · split
      · exact h _
      · exact ih
theorem tourW_len {m : Nat} {w : List Int → Int} : ∀ (f : Nat) (a : List Int), (tourW m w f a).1.length ≤ m
  | 0, a => by simp [tourW]
  | f + 1, a => by
    rw [tourW]
    split
    · rename_i h; simp only; omega
    · exact tTo_len (tourW_len f) _
theorem bestW_len (m : Nat) (w : List Int → Int) : (bestW m w).1.length ≤ m := tourW_len _ _
theorem bestW_nn {m : Nat} {w : List Int → Int} (hw : ∀ a, GoodW m a → 0 ≤ w a) : 0 ≤ (bestW m w).2 := (vis_tour hw (m + 1) [] (goodW_nil m) (by simp)).1
end Go.Proofs.Ytkjgmppcgcimgaa
