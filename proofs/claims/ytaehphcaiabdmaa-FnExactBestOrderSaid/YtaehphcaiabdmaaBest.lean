/- The best order, in plain Lean: the program's search and the reference's recursion find the same. -/
import Derived.Test.YtaehphcaiabdmaaWait2
namespace Go.Proofs.Ytaehphcaiabdmaa
open Go.Am
set_option linter.unusedVariables false
set_option linter.unusedSimpArgs false

abbrev Bst := List Int × Int
def visTo (rec : List Int → Bst → Bst) (ids a : List Int) (s : Bst) : Nat → Bst
  | 0 => s
  | k + 1 => if hasI a (ids.getD k 0) then visTo rec ids a s k else rec (a ++ [ids.getD k 0]) (visTo rec ids a s k)
def visEnd (ids : List Int) (ch : List Int → Bool) (wt : List Int → Int) (a : List Int) (s : Bst) : Bst :=
  if a.length < ids.length ∨ ch a = false then s else if s.2 < 0 ∨ wt a < s.2 then (a, wt a) else s
/-- the program's search -/
def visN (ids : List Int) (ch : List Int → Bool) (wt : List Int → Int) : Nat → List Int → Bst → Bst
  | 0, _, s => s
  | f + 1, a, s => visEnd ids ch wt a (visTo (visN ids ch wt f) ids a s ids.length)
def bestTo (rec : List Int → Bst) (g : List Int → Int → Bool) (ids a : List Int) : Nat → Bst
  | 0 => ([], -1)
  | k + 1 => if hasI a (ids.getD k 0) = true ∨ g a (ids.getD k 0) = false then bestTo rec g ids a k else
      if 0 ≤ (rec (a ++ [ids.getD k 0])).2 ∧ ((bestTo rec g ids a k).2 < 0 ∨ (rec (a ++ [ids.getD k 0])).2 < (bestTo rec g ids a k).2) then rec (a ++ [ids.getD k 0]) else bestTo rec g ids a k
def bestEnd (stp : List Int → Int) (a : List Int) (r : Bst) : Bst := if r.2 < 0 then r else (r.1, r.2 + stp a)
/-- the reference's recursion -/
def bestN (ids : List Int) (g : List Int → Int → Bool) (stp : List Int → Int) : Nat → List Int → Bst
  | 0, _ => ([], -1)
  | f + 1, a => if a.length = ids.length then (a, 0) else bestEnd stp a (bestTo (bestN ids g stp f) g ids a ids.length)
def comb (p : Int) (q s : Bst) : Bst := if q.2 < 0 then s else if s.2 < 0 ∨ p + q.2 < s.2 then (q.1, p + q.2) else s
theorem bestTo_neg {rec : List Int → Bst} {g : List Int → Int → Bool} {ids a : List Int} : ∀ k, (bestTo rec g ids a k).2 < 0 → bestTo rec g ids a k = ([], -1)
  | 0, _ => rfl
  | k + 1, h => by
    rw [bestTo] at h ⊢
    split
    · rename_i h1; rw [if_pos h1] at h; exact bestTo_neg k h
    · rename_i h1
      rw [if_neg h1] at h
      split
      · rename_i h2; rw [if_pos h2] at h; omega
      · rename_i h2; rw [if_neg h2] at h; exact bestTo_neg k h
theorem bestN_neg {ids : List Int} {g : List Int → Int → Bool} {stp : List Int → Int} (hs : ∀ a, 0 ≤ stp a) : ∀ (f : Nat) (a : List Int), (bestN ids g stp f a).2 < 0 → bestN ids g stp f a = ([], -1)
  | 0, _, _ => rfl
  | f + 1, a, h => by
    rw [bestN] at h ⊢
    split
    · rename_i h1; rw [if_pos h1] at h; exact absurd h (by simp)
    · rename_i h1
      rw [if_neg h1] at h
      unfold bestEnd at h ⊢
      split
      · rename_i h2; exact bestTo_neg _ h2
      · rename_i h2
        rw [if_neg h2] at h
        have := hs a
        simp only at h
        omega
/-- the orders that are begun: shut valves, each once -/
def GoodA (ids a : List Int) : Prop := a.Nodup ∧ ∀ x ∈ a, x ∈ ids
theorem GoodA.nil (ids : List Int) : GoodA ids [] := ⟨List.Pairwise.nil, fun x h => absurd h (by simp)⟩
theorem GoodA.le {ids a : List Int} (h : GoodA ids a) : a.length ≤ ids.length := by
  rcases Nat.lt_or_ge ids.length a.length with h' | h'
  · have := (perm_of_sub h.1 h.2 (by omega)).length_eq
    omega
  · exact h'
theorem GoodA.snoc {ids a : List Int} (h : GoodA ids a) {k : Nat} (hk : k < ids.length) (hn : hasI a (ids.getD k 0) = false) : GoodA ids (a ++ [ids.getD k 0]) := by
  have hm : ids.getD k 0 ∈ ids := by rw [List.getD_eq_getElem?_getD, List.getElem?_eq_getElem hk]; exact List.getElem_mem hk
  refine ⟨List.pairwise_append.2 ⟨h.1, List.pairwise_singleton _ _, fun x hx y hy e => ?_⟩, fun x hx => ?_⟩
  · rw [List.mem_singleton.1 hy] at e
    exact of_decide_eq_false hn (e ▸ hx)
  · rcases List.mem_append.1 hx with hx | hx
    · exact h.2 x hx
    · rw [List.mem_singleton.1 hx]; exact hm
theorem GoodA.all {ids a : List Int} (h : GoodA ids a) (hl : a.length = ids.length) {k : Nat} (hk : k < ids.length) : hasI a (ids.getD k 0) = true := by
  have hm : ids.getD k 0 ∈ ids := by rw [List.getD_eq_getElem?_getD, List.getElem?_eq_getElem hk]; exact List.getElem_mem hk
  exact decide_eq_true ((perm_of_sub h.1 h.2 (by omega)).mem_iff.2 hm)
theorem comb_neg {p : Int} {q s : Bst} (h : q.2 < 0) : comb p q s = s := if_pos h
theorem comb_yes {p : Int} {q s : Bst} (h : 0 ≤ q.2) (h2 : s.2 < 0 ∨ p + q.2 < s.2) : comb p q s = (q.1, p + q.2) := by
  unfold comb; rw [if_neg (by omega), if_pos h2]
theorem comb_no {p : Int} {q s : Bst} (h2 : ¬ (s.2 < 0 ∨ p + q.2 < s.2)) : comb p q s = s := by
  unfold comb
  by_cases h : q.2 < 0
  · rw [if_pos h]
  · rw [if_neg h, if_neg h2]
theorem comb_comb {p : Int} (hp : 0 ≤ p) (q r s : Bst) : comb p q (comb p r s) = comb p (if 0 ≤ q.2 ∧ (r.2 < 0 ∨ q.2 < r.2) then q else r) s := by
  by_cases h1 : q.2 < 0
  · rw [comb_neg h1]
    rw [if_neg (by omega)]
  · by_cases h2 : r.2 < 0
    · rw [comb_neg h2, if_pos ⟨by omega, .inl h2⟩]
    · by_cases h3 : q.2 < r.2
      · rw [if_pos ⟨by omega, .inr h3⟩]
        by_cases h4 : s.2 < 0 ∨ p + r.2 < s.2
        · rw [comb_yes (q := r) (by omega) h4, comb_yes (s := s) (by omega) (by omega)]
          exact comb_yes (by omega) (.inr (by show p + q.2 < p + r.2; omega))
        · rw [comb_no h4]
      · rw [if_neg (by omega)]
        by_cases h4 : s.2 < 0 ∨ p + r.2 < s.2
        · rw [comb_yes (q := r) (by omega) h4]
          exact comb_no (by show ¬ (p + r.2 < 0 ∨ p + q.2 < p + r.2); omega)
        · rw [comb_no (q := r) h4]
          exact comb_no (by omega)
section
variable {ids : List Int} {ch : List Int → Bool} {wt stp : List Int → Int} {g : List Int → Int → Bool}
theorem vis_not (hch : ∀ a x, ch (a ++ [x]) = (ch a && g a x)) : ∀ (f : Nat) (a : List Int) (s : Bst), ch a = false → visN ids ch wt f a s = s
  | 0, a, s, _ => rfl
  | f + 1, a, s, h => by
    have hto : ∀ k, visTo (visN ids ch wt f) ids a s k = s := by
      intro k
      induction k with
      | zero => rfl
      | succ k ih =>
        rw [visTo]
        split
        · exact ih
        · rw [ih]; exact vis_not hch f _ s (by rw [hch, h, Bool.false_and])
    rw [visN, hto, visEnd, if_pos (.inr h)]
theorem vis_best (hch : ∀ a x, ch (a ++ [x]) = (ch a && g a x)) (hs : ∀ a, 0 ≤ stp a) (hw0 : ∀ a, 0 ≤ wt a) (hw : ∀ a x, wt (a ++ [x]) = wt a + stp a) :
    ∀ (f : Nat) (a : List Int) (s : Bst), GoodA ids a → ids.length - a.length < f → ch a = true → visN ids ch wt f a s = comb (wt a) (bestN ids g stp f a) s
  | 0, a, s, _, h, _ => absurd h (Nat.not_lt_zero _)
  | f + 1, a, s, hg, hf, hc => by
    have hle := hg.le
    rw [visN, bestN]
    by_cases hl : a.length = ids.length
    · rw [if_pos hl]
      have hto : ∀ k, k ≤ ids.length → visTo (visN ids ch wt f) ids a s k = s := by
        intro k hk
        induction k with
        | zero => rfl
        | succ k ih => rw [visTo, if_pos (hg.all hl (by omega))]; exact ih (by omega)
      rw [hto _ (Nat.le_refl _), visEnd, if_neg (by rw [hc]; simp; omega)]
      by_cases h : s.2 < 0 ∨ wt a < s.2
      · rw [if_pos h, comb_yes (by simp) (by simpa using h)]; simp
      · rw [if_neg h, comb_no (by simpa using h)]
    · rw [if_neg hl]
      have hto : ∀ k, k ≤ ids.length → visTo (visN ids ch wt f) ids a s k = comb (wt a + stp a) (bestTo (bestN ids g stp f) g ids a k) s := by
        intro k hk
        induction k with
        | zero => rfl
        | succ k ih =>
          rw [visTo, bestTo, ih (by omega)]
          cases h1 : hasI a (ids.getD k 0)
          · rw [if_neg (by simp)]
            have hg' := hg.snoc (show k < ids.length by omega) h1
            cases h2 : g a (ids.getD k 0)
            · rw [if_pos (.inr rfl)]
              exact vis_not hch f _ _ (by rw [hch, h2, Bool.and_false])
            · rw [if_neg (by simp)]
              rw [vis_best hch hs hw0 hw f _ _ hg' (by simp; omega) (by rw [hch, hc, h2]; rfl), hw]
              exact comb_comb (by have := hs a; have := hw0 a; omega) _ _ _
          · rw [if_pos rfl, if_pos (.inl rfl)]
      rw [hto _ (Nat.le_refl _), visEnd, if_pos (.inl (by omega))]
      generalize bestTo (bestN ids g stp f) g ids a ids.length = r
      unfold bestEnd
      by_cases h : r.2 < 0
      · rw [if_pos h, comb_neg h, comb_neg h]
      · rw [if_neg h]
        have hs' := hs a
        by_cases h4 : s.2 < 0 ∨ wt a + stp a + r.2 < s.2
        · rw [comb_yes (by omega) h4, comb_yes (by show 0 ≤ r.2 + stp a; omega) (by show s.2 < 0 ∨ wt a + (r.2 + stp a) < s.2; omega)]
          show (r.1, wt a + stp a + r.2) = (r.1, wt a + (r.2 + stp a))
          rw [show wt a + (r.2 + stp a) = wt a + stp a + r.2 by omega]
        · rw [comb_no h4, comb_no (by show ¬ (s.2 < 0 ∨ wt a + (r.2 + stp a) < s.2); omega)]
end
end Go.Proofs.Ytaehphcaiabdmaa
