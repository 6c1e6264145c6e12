/- Best, Visit, BestS, Quick, NwP, StillDryLaw, Useful, WetMono, BestMin, Quick2, RecAl, LawV, FnOrders, in one text. -/
import Derived.Test.YtncblopbcnkinaaGreatOrM3
import Derived.Test.YtncblopbcnkinaaGreatShort
import Derived.Test.YtncblopbcnkinaaGreatAm17
import Derived.Test.YtncblopbcnkinaaGreatOrM1
import Derived.Test.YtncblopbcnkinaaGreatFacts
import Derived.Test.YtncblopbcnkinaaGreatAm14
import Derived.Test.YtncblopbcnkinaaGreatRecNm
import Derived.Test.YtncblopbcnkinaaGreatOrM2
/- The best order, in plain Lean: the program's search and the reference's recursion find the same. -/
namespace Go.Proofs.YtncblopbcnkinaaGreat
open Go.Am
set_option linter.unusedVariables false
set_option linter.unusedSimpArgs false

abbrev Bst := List Int × Int
def visTo (rec : List Int → Bst → Bst) (ids a : List Int) (s : Bst) : Nat → Bst
  | 0 => s
  | k + 1 => if hasI a (ids.getD k 0) then visTo rec ids a s k else rec (a ++ [ids.getD k 0]) (visTo rec ids a s k)
def visEnd (ids : List Int) (ch : List Int → Bool) (wt : List Int → Int) (a : List Int) (s : Bst) : Bst :=
  if a.length < ids.length ∨ ch a = false then s else if s.2 < 0 ∨ wt a < s.2 then (a, wt a) else s
/-- the program's search -/
def visN (ids : List Int) (ch : List Int → Bool) (wt : List Int → Int) : Nat → List Int → Bst → Bst
  | 0, _, s => s
  | f + 1, a, s => visEnd ids ch wt a (visTo (visN ids ch wt f) ids a s ids.length)
def bestTo (rec : List Int → Bst) (g : List Int → Int → Bool) (ids a : List Int) : Nat → Bst
  | 0 => ([], -1)
  | k + 1 => if hasI a (ids.getD k 0) = true ∨ g a (ids.getD k 0) = false then bestTo rec g ids a k else
      if 0 ≤ (rec (a ++ [ids.getD k 0])).2 ∧ ((bestTo rec g ids a k).2 < 0 ∨ (rec (a ++ [ids.getD k 0])).2 < (bestTo rec g ids a k).2) then rec (a ++ [ids.getD k 0]) else bestTo rec g ids a k
def bestEnd (stp : List Int → Int) (a : List Int) (r : Bst) : Bst := if r.2 < 0 then r else (r.1, r.2 + stp a)
/-- the reference's recursion -/
def bestN (ids : List Int) (g : List Int → Int → Bool) (stp : List Int → Int) : Nat → List Int → Bst
  | 0, _ => ([], -1)
  | f + 1, a => if a.length = ids.length then (a, 0) else bestEnd stp a (bestTo (bestN ids g stp f) g ids a ids.length)
def comb (p : Int) (q s : Bst) : Bst := if q.2 < 0 then s else if s.2 < 0 ∨ p + q.2 < s.2 then (q.1, p + q.2) else s
theorem bestTo_neg {rec : List Int → Bst} {g : List Int → Int → Bool} {ids a : List Int} : ∀ k, (bestTo rec g ids a k).2 < 0 → bestTo rec g ids a k = ([], -1)
  | 0, _ => rfl
  | k + 1, h => by
    rw [bestTo] at h ⊢
    split
    · rename_i h1; rw [if_pos h1] at h; exact bestTo_neg k h
    · rename_i h1
      rw [if_neg h1] at h
      split
      · rename_i h2; rw [if_pos h2] at h; omega
      · rename_i h2; rw [if_neg h2] at h; exact bestTo_neg k h
theorem bestN_neg {ids : List Int} {g : List Int → Int → Bool} {stp : List Int → Int} (hs : ∀ a, 0 ≤ stp a) : ∀ (f : Nat) (a : List Int), (bestN ids g stp f a).2 < 0 → bestN ids g stp f a = ([], -1)
  | 0, _, _ => rfl
  | f + 1, a, h => by
    rw [bestN] at h ⊢
    split
    · rename_i h1; rw [if_pos h1] at h; exact absurd h (by simp)
    · rename_i h1
      rw [if_neg h1] at h
      unfold bestEnd at h ⊢
      split
      · rename_i h2; exact bestTo_neg _ h2
      · rename_i h2
        rw [if_neg h2] at h
        have := hs a
        simp only at h
        omega
/-- the orders that are begun: shut valves, each once -/
def GoodA (ids a : List Int) : Prop := a.Nodup ∧ ∀ x ∈ a, x ∈ ids
theorem GoodA.nil (ids : List Int) : GoodA ids [] := ⟨List.Pairwise.nil, fun x h => absurd h (by simp)⟩
theorem GoodA.le {ids a : List Int} (h : GoodA ids a) : a.length ≤ ids.length := by
  rcases Nat.lt_or_ge ids.length a.length with h' | h'
  · have := (perm_of_sub h.1 h.2 (by omega)).length_eq
    omega
  · exact h'
theorem GoodA.snoc {ids a : List Int} (h : GoodA ids a) {k : Nat} (hk : k < ids.length) (hn : hasI a (ids.getD k 0) = false) : GoodA ids (a ++ [ids.getD k 0]) := by
  have hm : ids.getD k 0 ∈ ids := by rw [List.getD_eq_getElem?_getD, List.getElem?_eq_getElem hk]; exact List.getElem_mem hk
  refine ⟨List.pairwise_append.2 ⟨h.1, List.pairwise_singleton _ _, fun x hx y hy e => ?_⟩, fun x hx => ?_⟩
  · rw [List.mem_singleton.1 hy] at e
    exact of_decide_eq_false hn (e ▸ hx)
  · rcases List.mem_append.1 hx with hx | hx
    · exact h.2 x hx
    · rw [List.mem_singleton.1 hx]; exact hm
theorem GoodA.all {ids a : List Int} (h : GoodA ids a) (hl : a.length = ids.length) {k : Nat} (hk : k < ids.length) : hasI a (ids.getD k 0) = true := by
  have hm : ids.getD k 0 ∈ ids := by rw [List.getD_eq_getElem?_getD, List.getElem?_eq_getElem hk]; exact List.getElem_mem hk
  exact decide_eq_true ((perm_of_sub h.1 h.2 (by omega)).mem_iff.2 hm)
theorem comb_neg {p : Int} {q s : Bst} (h : q.2 < 0) : comb p q s = s := if_pos h
theorem comb_yes {p : Int} {q s : Bst} (h : 0 ≤ q.2) (h2 : s.2 < 0 ∨ p + q.2 < s.2) : comb p q s = (q.1, p + q.2) := by
  unfold comb; rw [if_neg (by omega), if_pos h2]
theorem comb_no {p : Int} {q s : Bst} (h2 : ¬ (s.2 < 0 ∨ p + q.2 < s.2)) : comb p q s = s := by
  unfold comb
  by_cases h : q.2 < 0
  · rw [if_pos h]
  · rw [if_neg h, if_neg h2]
theorem comb_comb {p : Int} (hp : 0 ≤ p) (q r s : Bst) : comb p q (comb p r s) = comb p (if 0 ≤ q.2 ∧ (r.2 < 0 ∨ q.2 < r.2) then q else r) s := by
  by_cases h1 : q.2 < 0
  · rw [comb_neg h1]
    rw [if_neg (by omega)]
  · by_cases h2 : r.2 < 0
    · rw [comb_neg h2, if_pos ⟨by omega, .inl h2⟩]
    · by_cases h3 : q.2 < r.2
      · rw [if_pos ⟨by omega, .inr h3⟩]
        by_cases h4 : s.2 < 0 ∨ p + r.2 < s.2
        · rw [comb_yes (q := r) (by omega) h4, comb_yes (s := s) (by omega) (by omega)]
          exact comb_yes (by omega) (.inr (by show p + q.2 < p + r.2; omega))
        · rw [comb_no h4]
      · rw [if_neg (by omega)]
        by_cases h4 : s.2 < 0 ∨ p + r.2 < s.2
        · rw [comb_yes (q := r) (by omega) h4]
          exact comb_no (by show ¬ (p + r.2 < 0 ∨ p + q.2 < p + r.2); omega)
        · rw [comb_no (q := r) h4]
          exact comb_no (by omega)
section
variable {ids : List Int} {ch : List Int → Bool} {wt stp : List Int → Int} {g : List Int → Int → Bool}
theorem vis_not (hch : ∀ a x, ch (a ++ [x]) = (ch a && g a x)) : ∀ (f : Nat) (a : List Int) (s : Bst), ch a = false → visN ids ch wt f a s = s
  | 0, a, s, _ => rfl
  | f + 1, a, s, h => by
    have hto : ∀ k, visTo (visN ids ch wt f) ids a s k = s := by
      intro k
      induction k with
      | zero => rfl
      | succ k ih =>
        rw [visTo]
        split
        · exact ih
        · rw [ih]; exact vis_not hch f _ s (by rw [hch, h, Bool.false_and])
    rw [visN, hto, visEnd, if_pos (.inr h)]
theorem vis_best (hch : ∀ a x, ch (a ++ [x]) = (ch a && g a x)) (hs : ∀ a, 0 ≤ stp a) (hw0 : ∀ a, 0 ≤ wt a) (hw : ∀ a x, wt (a ++ [x]) = wt a + stp a) :
    ∀ (f : Nat) (a : List Int) (s : Bst), GoodA ids a → ids.length - a.length < f → ch a = true → visN ids ch wt f a s = comb (wt a) (bestN ids g stp f a) s
  | 0, a, s, _, h, _ => absurd h (Nat.not_lt_zero _)
  | f + 1, a, s, hg, hf, hc => by
    have hle := hg.le
    rw [visN, bestN]
    by_cases hl : a.length = ids.length
    · rw [if_pos hl]
      have hto : ∀ k, k ≤ ids.length → visTo (visN ids ch wt f) ids a s k = s := by
        intro k hk
        induction k with
        | zero => rfl
        | succ k ih => rw [visTo, if_pos (hg.all hl (by omega))]; exact ih (by omega)
      rw [hto _ (Nat.le_refl _), visEnd, if_neg (by rw [hc]; simp; omega)]
      by_cases h : s.2 < 0 ∨ wt a < s.2
      · rw [if_pos h, comb_yes (by simp) (by simpa using h)]; simp
      · rw [if_neg h, comb_no (by simpa using h)]
    · rw [if_neg hl]
      have hto : ∀ k, k ≤ ids.length → visTo (visN ids ch wt f) ids a s k = comb (wt a + stp a) (bestTo (bestN ids g stp f) g ids a k) s := by
        intro k hk
        induction k with
        | zero => rfl
        | succ k ih =>
          rw [visTo, bestTo, ih (by omega)]
          cases h1 : hasI a (ids.getD k 0)
          · rw [if_neg (by simp)]
            have hg' := hg.snoc (show k < ids.length by omega) h1
            cases h2 : g a (ids.getD k 0)
            · rw [if_pos (.inr rfl)]
              exact vis_not hch f _ _ (by rw [hch, h2, Bool.and_false])
            · rw [if_neg (by simp)]
              rw [vis_best hch hs hw0 hw f _ _ hg' (by simp; omega) (by rw [hch, hc, h2]; rfl), hw]
              exact comb_comb (by have := hs a; have := hw0 a; omega) _ _ _
          · rw [if_pos rfl, if_pos (.inl rfl)]
      rw [hto _ (Nat.le_refl _), visEnd, if_pos (.inl (by omega))]
      generalize bestTo (bestN ids g stp f) g ids a ids.length = r
      unfold bestEnd
      by_cases h : r.2 < 0
      · rw [if_pos h, comb_neg h, comb_neg h]
      · rw [if_neg h]
        have hs' := hs a
        by_cases h4 : s.2 < 0 ∨ wt a + stp a + r.2 < s.2
        · rw [comb_yes (by omega) h4, comb_yes (by show 0 ≤ r.2 + stp a; omega) (by show s.2 < 0 ∨ wt a + (r.2 + stp a) < s.2; omega)]
          show (r.1, wt a + stp a + r.2) = (r.1, wt a + (r.2 + stp a))
          rw [show wt a + (r.2 + stp a) = wt a + stp a + r.2 by omega]
        · rw [comb_no h4, comb_no (by show ¬ (s.2 < 0 ∨ wt a + (r.2 + stp a) < s.2); omega)]
end
end Go.Proofs.YtncblopbcnkinaaGreat
/- The best order: the program's search, the walk. -/
namespace Go.Proofs.YtncblopbcnkinaaGreat
open Go.Am
set_option linter.unusedVariables false
set_option linter.unusedSimpArgs false
set_option maxRecDepth 100000
set_option maxHeartbeats 4000000

/-- where the search's variables lie -/
structure VT where
  a1 : Nat
  a2 : Nat
  a3 : Nat
  a4 : Nat
  a5 : Nat
  a6 : Nat
  a7 : Nat
  a8 : Nat
  a9 : Nat
  ti : Nat
  tp : Nat
  tv : Nat
  tw : Nat
  cp : Nat
  cv : Nat
  cw : Nat
  gch : Nat
  capc : Array Value
def VT.caps (T : VT) : List Value := [.pointer (some ⟨T.a1, 0, none⟩), .pointer (some ⟨T.a2, 0, none⟩), .pointer (some ⟨T.a3, 0, none⟩), .pointer (some ⟨T.a4, 0, none⟩), .pointer (some ⟨T.a5, 0, none⟩), .pointer (some ⟨T.a6, 0, none⟩), .pointer (some ⟨T.a7, 0, none⟩), .pointer (some ⟨T.a8, 0, none⟩), .pointer (some ⟨T.a9, 0, none⟩)]
/-- the two variables that are written lie apart from all others -/
def VT.apart (T : VT) : Prop := T.a8 ≠ T.a9 ∧ ∀ t ∈ [T.a1, T.a2, T.a3, T.a4, T.a5, T.a6, T.a7, T.ti, T.tp, T.tv, T.tw], t ≠ T.a8 ∧ t ≠ T.a9
structure VEnv (n : Int) (ps : List Pp) (l : List Vl) (src : Int) (cu : List Int) (T : VT) (Pre : Heap → Prop) (K : Heap) : Prop where
  v1 : aCells K ⟨T.a1, 0, none⟩ 1 = some [.slice (some ⟨T.ti, 0, none⟩) (shutL l).length 0]
  v2 : aCells K ⟨T.a2, 0, none⟩ 1 = some [.func (.func 55) #[] T.caps.toArray]
  v3 : aCells K ⟨T.a3, 0, none⟩ 1 = some [.func (.func T.gch) #[] T.capc]
  v4 : aCells K ⟨T.a4, 0, none⟩ 2 = some [.int .i64 n, .slice (some ⟨T.tp, 0, none⟩) ps.length T.cp]
  v5 : aCells K ⟨T.a5, 0, none⟩ 1 = some [.slice (some ⟨T.tv, 0, none⟩) l.length T.cv]
  v6 : aCells K ⟨T.a6, 0, none⟩ 1 = some [.int .i64 src]
  v7 : aCells K ⟨T.a7, 0, none⟩ 1 = some [.slice (some ⟨T.tw, 0, none⟩) cu.length T.cw]
  s1 : Sl nmE K T.ti (shutL l)
  s4 : Sl ppE K T.tp ps
  s5 : Sl vlE K T.tv l
  s7 : Sl nmE K T.tw cu
  l1 : T.a1 < K.length
  l2 : T.a2 < K.length
  l3 : T.a3 < K.length
  l4 : T.a4 < K.length
  l5 : T.a5 < K.length
  l6 : T.a6 < K.length
  l7 : T.a7 < K.length
  l8 : T.a8 < K.length
  l9 : T.a9 < K.length
  cc : L2 (WMP (sg K.length []) K.length) T.capc.toList T.capc.toList
  pre : Pre K
theorem VEnv.kp {n : Int} {ps : List Pp} {l : List Vl} {src : Int} {cu : List Int} {T : VT} {Pre : Heap → Prop} (hap : T.apart) (hpre : ∀ K G, Pre K → Kp T.a8 T.a9 K G → Pre G) {K G : Heap} (h : VEnv n ps l src cu T Pre K) (k : Kp T.a8 T.a9 K G) : VEnv n ps l src cu T Pre G := by
  have hne := fun t ht => hap.2 t ht
  simp only [List.mem_cons, List.not_mem_nil, or_false] at hne
  have q := fun t ht => (hne t ht).1
  have r := fun t ht => (hne t ht).2
  refine ⟨k.cells h.l1 (q _ (by simp)) (r _ (by simp)) h.v1, k.cells h.l2 (q _ (by simp)) (r _ (by simp)) h.v2, k.cells h.l3 (q _ (by simp)) (r _ (by simp)) h.v3, k.cells h.l4 (q _ (by simp)) (r _ (by simp)) h.v4, k.cells h.l5 (q _ (by simp)) (r _ (by simp)) h.v5, k.cells h.l6 (q _ (by simp)) (r _ (by simp)) h.v6, k.cells h.l7 (q _ (by simp)) (r _ (by simp)) h.v7,
    k.sl h.s1 (q _ (by simp)) (r _ (by simp)), k.sl h.s4 (q _ (by simp)) (r _ (by simp)), k.sl h.s5 (q _ (by simp)) (r _ (by simp)), k.sl h.s7 (q _ (by simp)) (r _ (by simp)), ?_, ?_, ?_, ?_, ?_, ?_, ?_, ?_, ?_, ?_, hpre K G h.pre k⟩
  · have := h.l1; have := k.1; omega
  · have := h.l2; have := k.1; omega
  · have := h.l3; have := k.1; omega
  · have := h.l4; have := k.1; omega
  · have := h.l5; have := k.1; omega
  · have := h.l6; have := k.1; omega
  · have := h.l7; have := k.1; omega
  · have := h.l8; have := k.1; omega
  · have := h.l9; have := k.1; omega
  · exact h.cc.mono fun x y => wmp_mono k.1
/-- what the two variables hold; b0: the blocks from there on were made by the search -/
structure VCel (T : VT) (b0 : Nat) (s : Bst) (K : Heap) : Prop where
  c8 : K.get T.a8 = some ⟨[.int .i64 s.2], true, 3, 1⟩
  c9 : ∃ g c, K.get T.a9 = some ⟨[.slice (some ⟨g, 0, none⟩) s.1.length c], true, 28, 1⟩ ∧ K.get g = some ⟨s.1.flatMap nmE, true, 3, 1⟩ ∧ g ≠ T.a8 ∧ g ≠ T.a9 ∧ b0 ≤ g
theorem VCel.kp {T : VT} {b0 : Nat} {s : Bst} {K L : Heap} (h : VCel T b0 s K) : VCel T b0 s (K ++ L) := by
  obtain ⟨g, c, h1, h2, h3⟩ := h.c9
  exact ⟨Heap.get_of h.c8, g, c, Heap.get_of h1, Heap.get_of h2, h3⟩
/-- what a call of the search hands out -/
def VOut (n : Int) (ps : List Pp) (l : List Vl) (src : Int) (cu : List Int) (T : VT) (Pre : Heap → Prop) (b0 : Nat) (K : Heap) (s : Bst) (v : Value) (G : Heap) : Prop :=
  v = .tuple #[] ∧ VEnv n ps l src cu T Pre G ∧ VCel T b0 s G ∧ VK K G ∧ Kp T.a8 T.a9 K G
theorem visit_R (n : Int) (ps : List Pp) (l : List Vl) (src : Int) (cu : List Int) (hq : askR n ps l src = true) (hcu : custOk n cu = true) (T : VT) (hap : T.apart) (Pre : Heap → Prop) (hpre : ∀ K G, Pre K → Kp T.a8 T.a9 K G → Pre G) (ch : List Int → Bool)
    (hch : ∀ G, Pre G → ∀ (a : List Int) (u d : Nat), Sl nmE G u a → ordB l a = true → AFunC Tryz.prog T.gch (.slice (some ⟨u, 0, none⟩) a.length d :: T.capc.toList) G (.bool (ch a)) G) (b0 : Nat) :
    ∀ (f : Nat) (a : List Int) (s : Bst) (d u : Nat) (K : Heap), GoodA (shutL l) a → (shutL l).length - a.length < f → VEnv n ps l src cu T Pre K → VCel T b0 s K → K.get u = some ⟨a.flatMap nmE, true, 3, 1⟩ → u ≠ T.a8 → u ≠ T.a9 → b0 ≤ u → b0 ≤ K.length →
    AFunR Tryz.prog 55 (.slice (some ⟨u, 0, none⟩) a.length d :: T.caps) K (VOut n ps l src cu T Pre b0 K (visN (shutL l) ch (fun a => waitN n ps l src a cu) f a s))
  | 0, a, s, d, u, K, hg, hf, hE, hC, hu, hu8, hu9, hub, hkb => absurd hf (Nat.not_lt_zero _)
  | f + 1, a, s, d, u, K, hg, hf, hE, hC, hu, hu8, hu9, hub, hkb => by
    have hle := hg.le
    obtain ⟨hgv, hN, hl10, hsrc, hs6⟩ := askR_at hq
    have hut := Heap.get_lt hu
    have hal : a.length ≤ 6 := by omega
    simp only [VT.caps]
    refine AFunR.of_body Tryz.func55 (by kernel_rfl) rfl (by kernel_rfl) (by simp [Tryz.ntmps55]) ?_
    have q1 := hE.v1
    have l1 := hE.l1
    have l2 := hE.l2
    have l3 := hE.l3
    have l4 := hE.l4
    have l5 := hE.l5
    have l6 := hE.l6
    have l7 := hE.l7
    have l8 := hE.l8
    have l9 := hE.l9
    have lti := hE.s1.lt
    simp -dsimp -implicitDefEqProofs (disch := omega) [go_sem, -List.getD_eq_getElem?_getD, ite_yes, q1, l1]
    refine ALoop.intro (ι := Nat × Heap) (fun q => q.1 ≤ (shutL l).length ∧ VEnv n ps l src cu T Pre q.2 ∧ VCel T b0 (visTo (visN (shutL l) ch (fun a => waitN n ps l src a cu) f) (shutL l) a s q.1) q.2 ∧ VK K q.2 ∧ Kp T.a8 T.a9 K q.2)
      (fun q => [(0, .slice (some ⟨u, 0, none⟩) a.length d), (1, .pointer (some ⟨T.a1, 0, none⟩)), (2, .pointer (some ⟨T.a2, 0, none⟩)), (3, .pointer (some ⟨T.a3, 0, none⟩)), (4, .pointer (some ⟨T.a4, 0, none⟩)), (5, .pointer (some ⟨T.a5, 0, none⟩)), (6, .pointer (some ⟨T.a6, 0, none⟩)), (7, .pointer (some ⟨T.a7, 0, none⟩)), (8, .pointer (some ⟨T.a8, 0, none⟩)), (9, .pointer (some ⟨T.a9, 0, none⟩)), (14, .slice (some ⟨T.ti, 0, none⟩) (shutL l).length 0), (15, .int .i64 (shutL l).length), (16, .int .i64 q.1)]) (fun q => q.2) (fun q => (shutL l).length - q.1) (0, K) ⟨by omega, hE, hC, VK.refl K, Kp.refl K⟩ ?_ ?_
    · exact weakS_same (by simp -dsimp -implicitDefEqProofs (disch := omega) [go_sem, -List.getD_eq_getElem?_getD, ite_yes, l1, l2, l3, l4, l5, l6, l7, l8, l9, lti, hut])
    clear q1 l1 l2 l3 l4 l5 l6 l7 l8 l9 lti
    rintro ⟨k, G⟩ ⟨hk, hE, hC, hV, hP⟩
    simp only at hk hE hC hV hP ⊢
    have l1 := hE.l1
    have l2 := hE.l2
    have l3 := hE.l3
    have l4 := hE.l4
    have l5 := hE.l5
    have l6 := hE.l6
    have l7 := hE.l7
    have l8 := hE.l8
    have l9 := hE.l9
    have lti := hE.s1.lt
    have hGu := hP.get hu hu8 hu9
    have hutG := Heap.get_lt hGu
    have hSu : Sl nmE G u a := ⟨_, [], hGu, by simp⟩
    have hkG : b0 ≤ G.length := by have := hP.1; omega
    by_cases hlt : k < (shutL l).length
    · have c1 := hE.s1.one (g := fun n => Value.int .i64 n) 0 k hlt
      have e : visTo (visN (shutL l) ch (fun a => waitN n ps l src a cu) f) (shutL l) a s (k + 1) = if hasI a ((shutL l).getD k 0) then visTo (visN (shutL l) ch (fun a => waitN n ps l src a cu) f) (shutL l) a s k else visN (shutL l) ch (fun a => waitN n ps l src a cu) f (a ++ [(shutL l).getD k 0]) (visTo (visN (shutL l) ch (fun a => waitN n ps l src a cu) f) (shutL l) a s k) := rfl
      simp -dsimp -implicitDefEqProofs (disch := omega) [go_sem, -List.getD_eq_getElem?_getD, ite_yes, hlt, c1, lti]
      refine ACall.of (containsNm_A a ((shutL l).getD k 0) (by omega) d _ u 0 (IdS.of hSu)) ?_
      cases h1 : hasI a ((shutL l).getD k 0)
      rotate_left
      · rw [h1, if_pos rfl] at e
        simp -dsimp -implicitDefEqProofs (disch := omega) [go_sem, -List.getD_eq_getElem?_getD, ite_yes]
        exact LoopEnd.of (k + 1, G) ⟨by omega, hE, by rw [e]; exact hC, hV, hP⟩ (by omega) (weakS_vk hV (by simp -dsimp -implicitDefEqProofs (disch := omega) [go_sem, -List.getD_eq_getElem?_getD, ite_yes, l1, l2, l3, l4, l5, l6, l7, l8, l9, lti, hutG]))
      have hgood := hg.snoc hlt h1
      have hle2 := hgood.le
      rw [List.length_append, List.length_singleton] at hle2
      rw [h1, if_neg (by simp)] at e
      have rE : ∀ (s' : Bst) (d' u' : Nat) (G' : Heap), VEnv n ps l src cu T Pre G' → VCel T b0 s' G' → G'.get u' = some ⟨(a ++ [(shutL l).getD k 0]).flatMap nmE, true, 3, 1⟩ → u' ≠ T.a8 → u' ≠ T.a9 → b0 ≤ u' → b0 ≤ G'.length →
          AFunR Tryz.prog 55 (.slice (some ⟨u', 0, none⟩) (a.length + 1) d' :: T.caps) G' (VOut n ps l src cu T Pre b0 G' (visN (shutL l) ch (fun a => waitN n ps l src a cu) f (a ++ [(shutL l).getD k 0]) s')) := by
        intro s' d' u' G' h2 h3 h4 h5 h6 h7 h8
        have := visit_R n ps l src cu hq hcu T hap Pre hpre ch hch b0 f (a ++ [(shutL l).getD k 0]) s' d' u' G' hgood (by rw [List.length_append, List.length_singleton]; omega) h2 h3 h4 h5 h6 h7 h8
        rwa [List.length_append, List.length_singleton] at this
      generalize hs' : visTo (visN (shutL l) ch (fun a => waitN n ps l src a cu) f) (shutL l) a s k = s' at *
      have q2 := hE.v2
      simp only [VT.caps] at q2 rE
      have eap : (a ++ [(shutL l).getD k 0]).flatMap nmE = a.flatMap nmE ++ [.int .i64 ((shutL l).getD k 0)] := by rw [List.flatMap_append]; rfl
      have hfa : (a.flatMap nmE).length = a.length := by rw [nmE_length]; omega
      generalize (shutL l).getD k 0 = id at *
      simp -dsimp -implicitDefEqProofs (disch := omega) [go_sem, -List.getD_eq_getElem?_getD, ite_yes]
      refine ADraw.any [] (by kernel_rfl) (SubH.nil) ?_
      refine AAny.takes (fuel := 5) (by kernel_rfl) (by kernel_rfl) [1, 3] (by kernel_rfl) (by kernel_rfl) ?_
      simp -dsimp -implicitDefEqProofs (disch := omega) [go_sem, -List.getD_eq_getElem?_getD, ite_yes, q2, l2, hutG, hfa]
      refine AAny.three 4 0 2 4 (by kernel_rfl) (by kernel_rfl) (by kernel_rfl) ?_ ?_ ?_
      · simp -dsimp -implicitDefEqProofs (disch := omega) [go_sem, -List.getD_eq_getElem?_getD, ite_yes, q2, l2, hutG, hfa]
        refine AAt.of (SubH.nil) ?_
        refine AAny.two 3 2 4 (by kernel_rfl) (by kernel_rfl) (by kernel_rfl) ?_ ?_
        · simp -dsimp -implicitDefEqProofs (disch := omega) [go_sem, -List.getD_eq_getElem?_getD, ite_yes, q2, l2, hutG, hfa]
          first | refine ACall.of (copyInts_A a (by omega) d _ u hSu) ?_ | refine ACall.of (copyInts_A a (by omega) d _ u hSu.app) ?_
          simp -dsimp -implicitDefEqProofs (disch := omega) [go_sem, -List.getD_eq_getElem?_getD, ite_yes, q2, l2, hutG, hfa]
          refine AAt.of (SubH.nil) ?_
          refine AAny.one1 2 4 ?_
          simp -dsimp -implicitDefEqProofs (disch := omega) [go_sem, -List.getD_eq_getElem?_getD, ite_yes, q2, l2, hutG, hfa]
          refine AAt.of (SubH.nil) ?_
          refine AAny.one1 1 5 ?_
          simp -dsimp -implicitDefEqProofs (disch := omega) [go_sem, -List.getD_eq_getElem?_getD, ite_yes, q2, l2, hutG, hfa]
          first | refine AAt.of (SubH.nil) ?_ | (refine ⟨?_, AAt.of (SubH.nil) ?_⟩; · omega)
          refine AAny.one1 0 6 ?_
          simp -dsimp -implicitDefEqProofs (disch := omega) [go_sem, -List.getD_eq_getElem?_getD, ite_yes, q2, l2, hutG, hfa]
          refine ACall.via (rE s' _ (G.length + 2) _ (hE.kp hap hpre Kp.app) hC.kp ((Heap.get_len_add _ _ 2).trans (by rw [eap]; rfl)) (by omega) (by omega) (by omega) (by simp; omega)) ?_
          rintro v G' ⟨rfl, hE', hC', hV', hP'⟩
          simp -dsimp -implicitDefEqProofs (disch := omega) [go_sem, -List.getD_eq_getElem?_getD, ite_yes, q2, l2, hutG, hfa]
          refine AAt.of (SubH.nil) ?_
          refine AAny.done (by kernel_rfl) ?_
          simp -dsimp -implicitDefEqProofs (disch := omega) [go_sem, -List.getD_eq_getElem?_getD, ite_yes, q2, l2, hutG, hfa]
          have k1 := hE'.l1
          have k2 := hE'.l2
          have k3 := hE'.l3
          have k4 := hE'.l4
          have k5 := hE'.l5
          have k6 := hE'.l6
          have k7 := hE'.l7
          have k8 := hE'.l8
          have k9 := hE'.l9
          have kti := hE'.s1.lt
          have kP := (hP.trans Kp.app).trans hP'
          have ku : u < G'.length := Nat.lt_of_lt_of_le hut kP.1
          have kV := (hV.trans (VK.app (flat3 (by first | exact trivial | exact (rfl : ([Value.int .i64 id] : List Value).all flat = true) | exact nmE_flat _ | exact eap ▸ nmE_flat _) (by first | exact trivial | exact (rfl : ([Value.int .i64 id] : List Value).all flat = true) | exact nmE_flat _ | exact eap ▸ nmE_flat _) (by first | exact trivial | exact (rfl : ([Value.int .i64 id] : List Value).all flat = true) | exact nmE_flat _ | exact eap ▸ nmE_flat _)))).trans hV'
          exact LoopEnd.of (k + 1, G') ⟨by omega, hE', by rw [e]; exact hC', kV, kP⟩ (by omega) (weakS_vk kV (by simp -dsimp -implicitDefEqProofs (disch := omega) [go_sem, -List.getD_eq_getElem?_getD, ite_yes, k1, k2, k3, k4, k5, k6, k7, k8, k9, kti, ku]))
        · simp -dsimp -implicitDefEqProofs (disch := omega) [go_sem, -List.getD_eq_getElem?_getD, ite_yes, q2, l2, hutG, hfa]
          refine AAt.of (SubH.nil) ?_
          refine AAny.one1 2 2 ?_
          simp -dsimp -implicitDefEqProofs (disch := omega) [go_sem, -List.getD_eq_getElem?_getD, ite_yes, q2, l2, hutG, hfa]
          first | refine ACall.of (copyInts_A a (by omega) d _ u hSu) ?_ | refine ACall.of (copyInts_A a (by omega) d _ u hSu.app) ?_
          simp -dsimp -implicitDefEqProofs (disch := omega) [go_sem, -List.getD_eq_getElem?_getD, ite_yes, q2, l2, hutG, hfa]
          refine AAt.of (SubH.nil) ?_
          refine AAny.one1 1 5 ?_
          simp -dsimp -implicitDefEqProofs (disch := omega) [go_sem, -List.getD_eq_getElem?_getD, ite_yes, q2, l2, hutG, hfa]
          first | refine AAt.of (SubH.nil) ?_ | (refine ⟨?_, AAt.of (SubH.nil) ?_⟩; · omega)
          refine AAny.one1 0 6 ?_
          simp -dsimp -implicitDefEqProofs (disch := omega) [go_sem, -List.getD_eq_getElem?_getD, ite_yes, q2, l2, hutG, hfa]
          refine ACall.via (rE s' _ (G.length + 2) _ (hE.kp hap hpre Kp.app) hC.kp ((Heap.get_len_add _ _ 2).trans (by rw [eap]; rfl)) (by omega) (by omega) (by omega) (by simp; omega)) ?_
          rintro v G' ⟨rfl, hE', hC', hV', hP'⟩
          simp -dsimp -implicitDefEqProofs (disch := omega) [go_sem, -List.getD_eq_getElem?_getD, ite_yes, q2, l2, hutG, hfa]
          refine AAt.of (SubH.nil) ?_
          refine AAny.done (by kernel_rfl) ?_
          simp -dsimp -implicitDefEqProofs (disch := omega) [go_sem, -List.getD_eq_getElem?_getD, ite_yes, q2, l2, hutG, hfa]
          have k1 := hE'.l1
          have k2 := hE'.l2
          have k3 := hE'.l3
          have k4 := hE'.l4
          have k5 := hE'.l5
          have k6 := hE'.l6
          have k7 := hE'.l7
          have k8 := hE'.l8
          have k9 := hE'.l9
          have kti := hE'.s1.lt
          have kP := (hP.trans Kp.app).trans hP'
          have ku : u < G'.length := Nat.lt_of_lt_of_le hut kP.1
          have kV := (hV.trans (VK.app (flat3 (by first | exact trivial | exact (rfl : ([Value.int .i64 id] : List Value).all flat = true) | exact nmE_flat _ | exact eap ▸ nmE_flat _) (by first | exact trivial | exact (rfl : ([Value.int .i64 id] : List Value).all flat = true) | exact nmE_flat _ | exact eap ▸ nmE_flat _) (by first | exact trivial | exact (rfl : ([Value.int .i64 id] : List Value).all flat = true) | exact nmE_flat _ | exact eap ▸ nmE_flat _)))).trans hV'
          exact LoopEnd.of (k + 1, G') ⟨by omega, hE', by rw [e]; exact hC', kV, kP⟩ (by omega) (weakS_vk kV (by simp -dsimp -implicitDefEqProofs (disch := omega) [go_sem, -List.getD_eq_getElem?_getD, ite_yes, k1, k2, k3, k4, k5, k6, k7, k8, k9, kti, ku]))
      · simp -dsimp -implicitDefEqProofs (disch := omega) [go_sem, -List.getD_eq_getElem?_getD, ite_yes, q2, l2, hutG, hfa]
        first | refine ACall.of (copyInts_A a (by omega) d _ u hSu) ?_ | refine ACall.of (copyInts_A a (by omega) d _ u hSu.app) ?_
        simp -dsimp -implicitDefEqProofs (disch := omega) [go_sem, -List.getD_eq_getElem?_getD, ite_yes, q2, l2, hutG, hfa]
        refine AAt.of (SubH.nil) ?_
        refine AAny.two 3 0 4 (by kernel_rfl) (by kernel_rfl) (by kernel_rfl) ?_ ?_
        · simp -dsimp -implicitDefEqProofs (disch := omega) [go_sem, -List.getD_eq_getElem?_getD, ite_yes, q2, l2, hutG, hfa]
          refine AAt.of (SubH.nil) ?_
          refine AAny.one1 2 4 ?_
          simp -dsimp -implicitDefEqProofs (disch := omega) [go_sem, -List.getD_eq_getElem?_getD, ite_yes, q2, l2, hutG, hfa]
          refine AAt.of (SubH.nil) ?_
          refine AAny.one1 1 5 ?_
          simp -dsimp -implicitDefEqProofs (disch := omega) [go_sem, -List.getD_eq_getElem?_getD, ite_yes, q2, l2, hutG, hfa]
          first | refine AAt.of (SubH.nil) ?_ | (refine ⟨?_, AAt.of (SubH.nil) ?_⟩; · omega)
          refine AAny.one1 0 6 ?_
          simp -dsimp -implicitDefEqProofs (disch := omega) [go_sem, -List.getD_eq_getElem?_getD, ite_yes, q2, l2, hutG, hfa]
          refine ACall.via (rE s' _ (G.length + 2) _ (hE.kp hap hpre Kp.app) hC.kp ((Heap.get_len_add _ _ 2).trans (by rw [eap]; rfl)) (by omega) (by omega) (by omega) (by simp; omega)) ?_
          rintro v G' ⟨rfl, hE', hC', hV', hP'⟩
          simp -dsimp -implicitDefEqProofs (disch := omega) [go_sem, -List.getD_eq_getElem?_getD, ite_yes, q2, l2, hutG, hfa]
          refine AAt.of (SubH.nil) ?_
          refine AAny.done (by kernel_rfl) ?_
          simp -dsimp -implicitDefEqProofs (disch := omega) [go_sem, -List.getD_eq_getElem?_getD, ite_yes, q2, l2, hutG, hfa]
          have k1 := hE'.l1
          have k2 := hE'.l2
          have k3 := hE'.l3
          have k4 := hE'.l4
          have k5 := hE'.l5
          have k6 := hE'.l6
          have k7 := hE'.l7
          have k8 := hE'.l8
          have k9 := hE'.l9
          have kti := hE'.s1.lt
          have kP := (hP.trans Kp.app).trans hP'
          have ku : u < G'.length := Nat.lt_of_lt_of_le hut kP.1
          have kV := (hV.trans (VK.app (flat3 (by first | exact trivial | exact (rfl : ([Value.int .i64 id] : List Value).all flat = true) | exact nmE_flat _ | exact eap ▸ nmE_flat _) (by first | exact trivial | exact (rfl : ([Value.int .i64 id] : List Value).all flat = true) | exact nmE_flat _ | exact eap ▸ nmE_flat _) (by first | exact trivial | exact (rfl : ([Value.int .i64 id] : List Value).all flat = true) | exact nmE_flat _ | exact eap ▸ nmE_flat _)))).trans hV'
          exact LoopEnd.of (k + 1, G') ⟨by omega, hE', by rw [e]; exact hC', kV, kP⟩ (by omega) (weakS_vk kV (by simp -dsimp -implicitDefEqProofs (disch := omega) [go_sem, -List.getD_eq_getElem?_getD, ite_yes, k1, k2, k3, k4, k5, k6, k7, k8, k9, kti, ku]))
        · simp -dsimp -implicitDefEqProofs (disch := omega) [go_sem, -List.getD_eq_getElem?_getD, ite_yes, q2, l2, hutG, hfa]
          refine AAt.of (SubH.nil) ?_
          refine AAny.two 2 0 5 (by kernel_rfl) (by kernel_rfl) (by kernel_rfl) ?_ ?_
          · simp -dsimp -implicitDefEqProofs (disch := omega) [go_sem, -List.getD_eq_getElem?_getD, ite_yes, q2, l2, hutG, hfa]
            refine AAt.of (SubH.nil) ?_
            refine AAny.one1 1 5 ?_
            simp -dsimp -implicitDefEqProofs (disch := omega) [go_sem, -List.getD_eq_getElem?_getD, ite_yes, q2, l2, hutG, hfa]
            first | refine AAt.of (SubH.nil) ?_ | (refine ⟨?_, AAt.of (SubH.nil) ?_⟩; · omega)
            refine AAny.one1 0 6 ?_
            simp -dsimp -implicitDefEqProofs (disch := omega) [go_sem, -List.getD_eq_getElem?_getD, ite_yes, q2, l2, hutG, hfa]
            refine ACall.via (rE s' _ (G.length + 2) _ (hE.kp hap hpre Kp.app) hC.kp ((Heap.get_len_add _ _ 2).trans (by rw [eap]; rfl)) (by omega) (by omega) (by omega) (by simp; omega)) ?_
            rintro v G' ⟨rfl, hE', hC', hV', hP'⟩
            simp -dsimp -implicitDefEqProofs (disch := omega) [go_sem, -List.getD_eq_getElem?_getD, ite_yes, q2, l2, hutG, hfa]
            refine AAt.of (SubH.nil) ?_
            refine AAny.done (by kernel_rfl) ?_
            simp -dsimp -implicitDefEqProofs (disch := omega) [go_sem, -List.getD_eq_getElem?_getD, ite_yes, q2, l2, hutG, hfa]
            have k1 := hE'.l1
            have k2 := hE'.l2
            have k3 := hE'.l3
            have k4 := hE'.l4
            have k5 := hE'.l5
            have k6 := hE'.l6
            have k7 := hE'.l7
            have k8 := hE'.l8
            have k9 := hE'.l9
            have kti := hE'.s1.lt
            have kP := (hP.trans Kp.app).trans hP'
            have ku : u < G'.length := Nat.lt_of_lt_of_le hut kP.1
            have kV := (hV.trans (VK.app (flat3 (by first | exact trivial | exact (rfl : ([Value.int .i64 id] : List Value).all flat = true) | exact nmE_flat _ | exact eap ▸ nmE_flat _) (by first | exact trivial | exact (rfl : ([Value.int .i64 id] : List Value).all flat = true) | exact nmE_flat _ | exact eap ▸ nmE_flat _) (by first | exact trivial | exact (rfl : ([Value.int .i64 id] : List Value).all flat = true) | exact nmE_flat _ | exact eap ▸ nmE_flat _)))).trans hV'
            exact LoopEnd.of (k + 1, G') ⟨by omega, hE', by rw [e]; exact hC', kV, kP⟩ (by omega) (weakS_vk kV (by simp -dsimp -implicitDefEqProofs (disch := omega) [go_sem, -List.getD_eq_getElem?_getD, ite_yes, k1, k2, k3, k4, k5, k6, k7, k8, k9, kti, ku]))
          · simp -dsimp -implicitDefEqProofs (disch := omega) [go_sem, -List.getD_eq_getElem?_getD, ite_yes, q2, l2, hutG, hfa]
            first | refine AAt.of (SubH.nil) ?_ | (refine ⟨?_, AAt.of (SubH.nil) ?_⟩; · omega)
            refine AAny.one1 1 0 ?_
            simp -dsimp -implicitDefEqProofs (disch := omega) [go_sem, -List.getD_eq_getElem?_getD, ite_yes, q2, l2, hutG, hfa]
            refine AAt.of (SubH.nil) ?_
            refine AAny.one1 0 6 ?_
            simp -dsimp -implicitDefEqProofs (disch := omega) [go_sem, -List.getD_eq_getElem?_getD, ite_yes, q2, l2, hutG, hfa]
            refine ACall.via (rE s' _ (G.length + 2) _ (hE.kp hap hpre Kp.app) hC.kp ((Heap.get_len_add _ _ 2).trans (by rw [eap]; rfl)) (by omega) (by omega) (by omega) (by simp; omega)) ?_
            rintro v G' ⟨rfl, hE', hC', hV', hP'⟩
            simp -dsimp -implicitDefEqProofs (disch := omega) [go_sem, -List.getD_eq_getElem?_getD, ite_yes, q2, l2, hutG, hfa]
            refine AAt.of (SubH.nil) ?_
            refine AAny.done (by kernel_rfl) ?_
            simp -dsimp -implicitDefEqProofs (disch := omega) [go_sem, -List.getD_eq_getElem?_getD, ite_yes, q2, l2, hutG, hfa]
            have k1 := hE'.l1
            have k2 := hE'.l2
            have k3 := hE'.l3
            have k4 := hE'.l4
            have k5 := hE'.l5
            have k6 := hE'.l6
            have k7 := hE'.l7
            have k8 := hE'.l8
            have k9 := hE'.l9
            have kti := hE'.s1.lt
            have kP := (hP.trans Kp.app).trans hP'
            have ku : u < G'.length := Nat.lt_of_lt_of_le hut kP.1
            have kV := (hV.trans (VK.app (flat3 (by first | exact trivial | exact (rfl : ([Value.int .i64 id] : List Value).all flat = true) | exact nmE_flat _ | exact eap ▸ nmE_flat _) (by first | exact trivial | exact (rfl : ([Value.int .i64 id] : List Value).all flat = true) | exact nmE_flat _ | exact eap ▸ nmE_flat _) (by first | exact trivial | exact (rfl : ([Value.int .i64 id] : List Value).all flat = true) | exact nmE_flat _ | exact eap ▸ nmE_flat _)))).trans hV'
            exact LoopEnd.of (k + 1, G') ⟨by omega, hE', by rw [e]; exact hC', kV, kP⟩ (by omega) (weakS_vk kV (by simp -dsimp -implicitDefEqProofs (disch := omega) [go_sem, -List.getD_eq_getElem?_getD, ite_yes, k1, k2, k3, k4, k5, k6, k7, k8, k9, kti, ku]))
      · simp -dsimp -implicitDefEqProofs (disch := omega) [go_sem, -List.getD_eq_getElem?_getD, ite_yes, q2, l2, hutG, hfa]
        refine AAt.of (SubH.nil) ?_
        refine AAny.two 3 0 2 (by kernel_rfl) (by kernel_rfl) (by kernel_rfl) ?_ ?_
        · simp -dsimp -implicitDefEqProofs (disch := omega) [go_sem, -List.getD_eq_getElem?_getD, ite_yes, q2, l2, hutG, hfa]
          refine AAt.of (SubH.nil) ?_
          refine AAny.one1 2 2 ?_
          simp -dsimp -implicitDefEqProofs (disch := omega) [go_sem, -List.getD_eq_getElem?_getD, ite_yes, q2, l2, hutG, hfa]
          first | refine ACall.of (copyInts_A a (by omega) d _ u hSu) ?_ | refine ACall.of (copyInts_A a (by omega) d _ u hSu.app) ?_
          simp -dsimp -implicitDefEqProofs (disch := omega) [go_sem, -List.getD_eq_getElem?_getD, ite_yes, q2, l2, hutG, hfa]
          refine AAt.of (SubH.nil) ?_
          refine AAny.one1 1 5 ?_
          simp -dsimp -implicitDefEqProofs (disch := omega) [go_sem, -List.getD_eq_getElem?_getD, ite_yes, q2, l2, hutG, hfa]
          first | refine AAt.of (SubH.nil) ?_ | (refine ⟨?_, AAt.of (SubH.nil) ?_⟩; · omega)
          refine AAny.one1 0 6 ?_
          simp -dsimp -implicitDefEqProofs (disch := omega) [go_sem, -List.getD_eq_getElem?_getD, ite_yes, q2, l2, hutG, hfa]
          refine ACall.via (rE s' _ (G.length + 2) _ (hE.kp hap hpre Kp.app) hC.kp ((Heap.get_len_add _ _ 2).trans (by rw [eap]; rfl)) (by omega) (by omega) (by omega) (by simp; omega)) ?_
          rintro v G' ⟨rfl, hE', hC', hV', hP'⟩
          simp -dsimp -implicitDefEqProofs (disch := omega) [go_sem, -List.getD_eq_getElem?_getD, ite_yes, q2, l2, hutG, hfa]
          refine AAt.of (SubH.nil) ?_
          refine AAny.done (by kernel_rfl) ?_
          simp -dsimp -implicitDefEqProofs (disch := omega) [go_sem, -List.getD_eq_getElem?_getD, ite_yes, q2, l2, hutG, hfa]
          have k1 := hE'.l1
          have k2 := hE'.l2
          have k3 := hE'.l3
          have k4 := hE'.l4
          have k5 := hE'.l5
          have k6 := hE'.l6
          have k7 := hE'.l7
          have k8 := hE'.l8
          have k9 := hE'.l9
          have kti := hE'.s1.lt
          have kP := (hP.trans Kp.app).trans hP'
          have ku : u < G'.length := Nat.lt_of_lt_of_le hut kP.1
          have kV := (hV.trans (VK.app (flat3 (by first | exact trivial | exact (rfl : ([Value.int .i64 id] : List Value).all flat = true) | exact nmE_flat _ | exact eap ▸ nmE_flat _) (by first | exact trivial | exact (rfl : ([Value.int .i64 id] : List Value).all flat = true) | exact nmE_flat _ | exact eap ▸ nmE_flat _) (by first | exact trivial | exact (rfl : ([Value.int .i64 id] : List Value).all flat = true) | exact nmE_flat _ | exact eap ▸ nmE_flat _)))).trans hV'
          exact LoopEnd.of (k + 1, G') ⟨by omega, hE', by rw [e]; exact hC', kV, kP⟩ (by omega) (weakS_vk kV (by simp -dsimp -implicitDefEqProofs (disch := omega) [go_sem, -List.getD_eq_getElem?_getD, ite_yes, k1, k2, k3, k4, k5, k6, k7, k8, k9, kti, ku]))
        · simp -dsimp -implicitDefEqProofs (disch := omega) [go_sem, -List.getD_eq_getElem?_getD, ite_yes, q2, l2, hutG, hfa]
          first | refine ACall.of (copyInts_A a (by omega) d _ u hSu) ?_ | refine ACall.of (copyInts_A a (by omega) d _ u hSu.app) ?_
          simp -dsimp -implicitDefEqProofs (disch := omega) [go_sem, -List.getD_eq_getElem?_getD, ite_yes, q2, l2, hutG, hfa]
          refine AAt.of (SubH.nil) ?_
          refine AAny.two 2 0 5 (by kernel_rfl) (by kernel_rfl) (by kernel_rfl) ?_ ?_
          · simp -dsimp -implicitDefEqProofs (disch := omega) [go_sem, -List.getD_eq_getElem?_getD, ite_yes, q2, l2, hutG, hfa]
            refine AAt.of (SubH.nil) ?_
            refine AAny.one1 1 5 ?_
            simp -dsimp -implicitDefEqProofs (disch := omega) [go_sem, -List.getD_eq_getElem?_getD, ite_yes, q2, l2, hutG, hfa]
            first | refine AAt.of (SubH.nil) ?_ | (refine ⟨?_, AAt.of (SubH.nil) ?_⟩; · omega)
            refine AAny.one1 0 6 ?_
            simp -dsimp -implicitDefEqProofs (disch := omega) [go_sem, -List.getD_eq_getElem?_getD, ite_yes, q2, l2, hutG, hfa]
            refine ACall.via (rE s' _ (G.length + 2) _ (hE.kp hap hpre Kp.app) hC.kp ((Heap.get_len_add _ _ 2).trans (by rw [eap]; rfl)) (by omega) (by omega) (by omega) (by simp; omega)) ?_
            rintro v G' ⟨rfl, hE', hC', hV', hP'⟩
            simp -dsimp -implicitDefEqProofs (disch := omega) [go_sem, -List.getD_eq_getElem?_getD, ite_yes, q2, l2, hutG, hfa]
            refine AAt.of (SubH.nil) ?_
            refine AAny.done (by kernel_rfl) ?_
            simp -dsimp -implicitDefEqProofs (disch := omega) [go_sem, -List.getD_eq_getElem?_getD, ite_yes, q2, l2, hutG, hfa]
            have k1 := hE'.l1
            have k2 := hE'.l2
            have k3 := hE'.l3
            have k4 := hE'.l4
            have k5 := hE'.l5
            have k6 := hE'.l6
            have k7 := hE'.l7
            have k8 := hE'.l8
            have k9 := hE'.l9
            have kti := hE'.s1.lt
            have kP := (hP.trans Kp.app).trans hP'
            have ku : u < G'.length := Nat.lt_of_lt_of_le hut kP.1
            have kV := (hV.trans (VK.app (flat3 (by first | exact trivial | exact (rfl : ([Value.int .i64 id] : List Value).all flat = true) | exact nmE_flat _ | exact eap ▸ nmE_flat _) (by first | exact trivial | exact (rfl : ([Value.int .i64 id] : List Value).all flat = true) | exact nmE_flat _ | exact eap ▸ nmE_flat _) (by first | exact trivial | exact (rfl : ([Value.int .i64 id] : List Value).all flat = true) | exact nmE_flat _ | exact eap ▸ nmE_flat _)))).trans hV'
            exact LoopEnd.of (k + 1, G') ⟨by omega, hE', by rw [e]; exact hC', kV, kP⟩ (by omega) (weakS_vk kV (by simp -dsimp -implicitDefEqProofs (disch := omega) [go_sem, -List.getD_eq_getElem?_getD, ite_yes, k1, k2, k3, k4, k5, k6, k7, k8, k9, kti, ku]))
          · simp -dsimp -implicitDefEqProofs (disch := omega) [go_sem, -List.getD_eq_getElem?_getD, ite_yes, q2, l2, hutG, hfa]
            first | refine AAt.of (SubH.nil) ?_ | (refine ⟨?_, AAt.of (SubH.nil) ?_⟩; · omega)
            refine AAny.one1 1 0 ?_
            simp -dsimp -implicitDefEqProofs (disch := omega) [go_sem, -List.getD_eq_getElem?_getD, ite_yes, q2, l2, hutG, hfa]
            refine AAt.of (SubH.nil) ?_
            refine AAny.one1 0 6 ?_
            simp -dsimp -implicitDefEqProofs (disch := omega) [go_sem, -List.getD_eq_getElem?_getD, ite_yes, q2, l2, hutG, hfa]
            refine ACall.via (rE s' _ (G.length + 2) _ (hE.kp hap hpre Kp.app) hC.kp ((Heap.get_len_add _ _ 2).trans (by rw [eap]; rfl)) (by omega) (by omega) (by omega) (by simp; omega)) ?_
            rintro v G' ⟨rfl, hE', hC', hV', hP'⟩
            simp -dsimp -implicitDefEqProofs (disch := omega) [go_sem, -List.getD_eq_getElem?_getD, ite_yes, q2, l2, hutG, hfa]
            refine AAt.of (SubH.nil) ?_
            refine AAny.done (by kernel_rfl) ?_
            simp -dsimp -implicitDefEqProofs (disch := omega) [go_sem, -List.getD_eq_getElem?_getD, ite_yes, q2, l2, hutG, hfa]
            have k1 := hE'.l1
            have k2 := hE'.l2
            have k3 := hE'.l3
            have k4 := hE'.l4
            have k5 := hE'.l5
            have k6 := hE'.l6
            have k7 := hE'.l7
            have k8 := hE'.l8
            have k9 := hE'.l9
            have kti := hE'.s1.lt
            have kP := (hP.trans Kp.app).trans hP'
            have ku : u < G'.length := Nat.lt_of_lt_of_le hut kP.1
            have kV := (hV.trans (VK.app (flat3 (by first | exact trivial | exact (rfl : ([Value.int .i64 id] : List Value).all flat = true) | exact nmE_flat _ | exact eap ▸ nmE_flat _) (by first | exact trivial | exact (rfl : ([Value.int .i64 id] : List Value).all flat = true) | exact nmE_flat _ | exact eap ▸ nmE_flat _) (by first | exact trivial | exact (rfl : ([Value.int .i64 id] : List Value).all flat = true) | exact nmE_flat _ | exact eap ▸ nmE_flat _)))).trans hV'
            exact LoopEnd.of (k + 1, G') ⟨by omega, hE', by rw [e]; exact hC', kV, kP⟩ (by omega) (weakS_vk kV (by simp -dsimp -implicitDefEqProofs (disch := omega) [go_sem, -List.getD_eq_getElem?_getD, ite_yes, k1, k2, k3, k4, k5, k6, k7, k8, k9, kti, ku]))
    · obtain rfl : k = (shutL l).length := by omega
      have hend : visN (shutL l) ch (fun a => waitN n ps l src a cu) (f + 1) a s = visEnd (shutL l) ch (fun a => waitN n ps l src a cu) a (visTo (visN (shutL l) ch (fun a => waitN n ps l src a cu) f) (shutL l) a s (shutL l).length) := rfl
      generalize visTo (visN (shutL l) ch (fun a => waitN n ps l src a cu) f) (shutL l) a s (shutL l).length = s' at *
      rw [hend]
      have q1 := hE.v1
      by_cases hl : a.length < (shutL l).length
      · simp -dsimp -implicitDefEqProofs (disch := omega) [go_sem, -List.getD_eq_getElem?_getD, ite_yes, hlt, q1, l1, hl]
        exact EndR.of (.tuple #[]) G ⟨rfl, hE, by rw [visEnd, if_pos (.inl hl)]; exact hC, hV, hP⟩ (fin_vk hV (by simp -dsimp -implicitDefEqProofs (disch := omega) [go_sem, -List.getD_eq_getElem?_getD, ite_yes]))
      have hll : a.length = (shutL l).length := by omega
      have hob : ordB l a = true := by
        unfold ordB
        rw [decide_eq_true hll, decide_eq_true (p := ordTo l a a.length) (fun i hi => ⟨decide_eq_true (hg.2 _ (by rw [List.getD_eq_getElem?_getD, List.getElem?_eq_getElem hi]; exact List.getElem_mem hi)), of_nodup hg.1 hi⟩)]
        rfl
      have q3 := hE.v3
      simp -dsimp -implicitDefEqProofs (disch := omega) [go_sem, -List.getD_eq_getElem?_getD, ite_yes, hlt, q1, l1, hl, q3, l3]
      refine ACall.of (hch G hE.pre a u d hSu hob) ?_
      cases hc : ch a
      · simp -dsimp -implicitDefEqProofs (disch := omega) [go_sem, -List.getD_eq_getElem?_getD, ite_yes]
        exact EndR.of (.tuple #[]) G ⟨rfl, hE, by rw [visEnd, if_pos (.inr hc)]; exact hC, hV, hP⟩ (fin_vk hV (by simp -dsimp -implicitDefEqProofs (disch := omega) [go_sem, -List.getD_eq_getElem?_getD, ite_yes]))
      have q4 := hE.v4
      have q5 := hE.v5
      have q6 := hE.v6
      have q7 := hE.v7
      simp -dsimp -implicitDefEqProofs (disch := omega) [go_sem, -List.getD_eq_getElem?_getD, ite_yes, q4, q5, q6, q7, l4, l5, l6, l7]
      refine ACall.of (waitingOf_A n ps T.cp l T.cv src a hq (by omega) d cu hcu T.cw _ T.tp T.tv u T.tw hE.s4 hE.s5 hSu hE.s7) ?_
      have c8 := hC.c8
      have q8 : aCells G ⟨T.a8, 0, none⟩ 1 = some [.int .i64 s'.2] := by rw [aCells_eq, c8]; rfl
      obtain ⟨gb, cb, c9, hcb⟩ := hC.c9
      have hne := hap.1
      have c8' : ∀ x, Heap.get (G.set T.a9 x) T.a8 = some ⟨[.int .i64 s'.2], true, 3, 1⟩ := fun x => by rw [Heap.get_set, if_neg (fun e => hne e.symm)]; exact c8
      have hfin : s'.2 < 0 ∨ waitN n ps l src a cu < s'.2 → EndR K (VOut n ps l src cu T Pre b0 K (visEnd (shutL l) ch (fun a => waitN n ps l src a cu) a s')) (.tuple #[]) ((G.set T.a9 (some ⟨[.slice (some ⟨u, 0, none⟩) a.length d], true, 28, 1⟩)).set T.a8 (some ⟨[.int .i64 (waitN n ps l src a cu)], true, 3, 1⟩)) := by
        intro h
        have kp2 : Kp T.a8 T.a9 G ((G.set T.a9 (some ⟨[.slice (some ⟨u, 0, none⟩) a.length d], true, 28, 1⟩)).set T.a8 (some ⟨[.int .i64 (waitN n ps l src a cu)], true, 3, 1⟩)) := Kp.set2.trans Kp.set1
        have vk2 : VK G ((G.set T.a9 (some ⟨[.slice (some ⟨u, 0, none⟩) a.length d], true, 28, 1⟩)).set T.a8 (some ⟨[.int .i64 (waitN n ps l src a cu)], true, 3, 1⟩)) :=
          (VK.set (b := ⟨[.slice (some ⟨u, 0, none⟩) a.length d], true, 28, 1⟩) l9 ⟨⟨hutG, .inl ⟨u, d, by simp [sg, hutG], rfl⟩⟩, trivial⟩).trans (VK.set (b := ⟨[.int .i64 (waitN n ps l src a cu)], true, 3, 1⟩) (by simpa using l8) ⟨rfl, trivial⟩)
        have hgu : Heap.get ((G.set T.a9 (some ⟨[.slice (some ⟨u, 0, none⟩) a.length d], true, 28, 1⟩)).set T.a8 (some ⟨[.int .i64 (waitN n ps l src a cu)], true, 3, 1⟩)) u = some ⟨a.flatMap nmE, true, 3, 1⟩ := kp2.get hGu hu8 hu9
        refine EndR.of (.tuple #[]) _ ⟨rfl, hE.kp hap hpre kp2, ?_, hV.trans vk2, hP.trans kp2⟩ (fin_vk (hV.trans vk2) (by simp -dsimp -implicitDefEqProofs (disch := omega) [go_sem, -List.getD_eq_getElem?_getD, ite_yes]))
        rw [visEnd, if_neg (by rw [hc]; simp; omega), if_pos h]
        refine ⟨by rw [Heap.get_set, if_pos rfl, if_pos (by simpa using l8)], u, d, ?_, hgu, hu8, hu9, hub⟩
        rw [Heap.get_set, if_neg hne, Heap.get_set, if_pos rfl, if_pos l9]
      have hfin2 : ¬ (s'.2 < 0 ∨ waitN n ps l src a cu < s'.2) → EndR K (VOut n ps l src cu T Pre b0 K (visEnd (shutL l) ch (fun a => waitN n ps l src a cu) a s')) (.tuple #[]) G := by
        intro h
        refine EndR.of (.tuple #[]) _ ⟨rfl, hE, ?_, hV, hP⟩ (fin_vk hV (by simp -dsimp -implicitDefEqProofs (disch := omega) [go_sem, -List.getD_eq_getElem?_getD, ite_yes]))
        rw [visEnd, if_neg (by rw [hc]; simp; omega), if_neg h]
        exact hC
      by_cases h5 : s'.2 < 0
      · simp -dsimp -implicitDefEqProofs (disch := omega) [go_sem, -List.getD_eq_getElem?_getD, ite_yes, q8, l8, h5, c9, c8', l9]
        exact hfin (.inl h5)
      · by_cases h6 : waitN n ps l src a cu < s'.2
        · simp -dsimp -implicitDefEqProofs (disch := omega) [go_sem, -List.getD_eq_getElem?_getD, ite_yes, q8, l8, h5, h6, c9, c8', l9]
          exact hfin (.inr h6)
        · simp -dsimp -implicitDefEqProofs (disch := omega) [go_sem, -List.getD_eq_getElem?_getD, ite_yes, q8, l8, h5, h6]
          exact hfin2 (by omega)
end Go.Proofs.YtncblopbcnkinaaGreat
/- The best order: the reference's recursion, the walk. -/
namespace Go.Proofs.YtncblopbcnkinaaGreat
open Go.Am
set_option linter.unusedVariables false
set_option linter.unusedSimpArgs false
set_option maxRecDepth 100000
set_option maxHeartbeats 8000000

theorem sg_id {m t : Nat} (h : t < m) : sg m [] t = some t := by simp [sg, h]
theorem bestTo_rng {rec : List Int → Bst} {g : List Int → Int → Bool} {ids a : List Int} {B : Int} (hB : 0 ≤ B) (h : ∀ b, -1 ≤ (rec b).2 ∧ (rec b).2 ≤ B) : ∀ k, -1 ≤ (bestTo rec g ids a k).2 ∧ (bestTo rec g ids a k).2 ≤ B
  | 0 => by simp [bestTo]; omega
  | k + 1 => by
    have ih := bestTo_rng (g := g) (ids := ids) (a := a) hB h k
    rw [bestTo]
    split
    · exact ih
    · split
      · exact h _
      · exact ih
theorem bestN_rng {ids : List Int} {g : List Int → Int → Bool} {stp : List Int → Int} (hs : ∀ a, 0 ≤ stp a ∧ stp a ≤ 8000) : ∀ (f : Nat) (a : List Int), -1 ≤ (bestN ids g stp f a).2 ∧ (bestN ids g stp f a).2 ≤ 8000 * (f : Int)
  | 0, a => by simp [bestN]
  | f + 1, a => by
    have h := bestTo_rng (g := g) (ids := ids) (a := a) (rec := bestN ids g stp f) (B := 8000 * (f : Int)) (by omega) (bestN_rng hs f) ids.length
    have := hs a
    rw [bestN]
    split
    · simp; omega
    · unfold bestEnd
      split
      · omega
      · simp only; omega
def gtOf (gt : Bool) (ps : List Pp) (l : List Vl) (src : Int) (a : List Int) (x : Int) : Bool := !gt || (rchB ps l src a x || !rchB ps l src (shutL l) x)
/-- what the recursion hands out -/
def BOut (h0 : Nat) (K : Heap) (r : Bst) (v : Value) (G : Heap) : Prop :=
  ∃ g c, v = .tuple #[.slice (some ⟨g, 0, none⟩) r.1.length c, .int .i64 r.2] ∧ G.get g = some ⟨r.1.flatMap nmE, true, 3, 1⟩ ∧ VK K G ∧ KQ K G ∧ h0 ≤ g
theorem l18Best_R (n : Int) (ps : List Pp) (l : List Vl) (src : Int) (cu : List Int) (hq : askR n ps l src = true) (hcu : custOk n cu = true) (gt : Bool) (tp cp tv cv tw cw : Nat) (h0 : Nat) :
    ∀ (f : Nat) (a : List Int) (d u : Nat) (K : Heap), GoodA (shutL l) a → (shutL l).length - a.length < f → f ≤ 7 → Sl ppE K tp ps → Sl vlE K tv l → Sl nmE K tw cu → K.get u = some ⟨a.flatMap nmE, true, 3, 1⟩ → h0 ≤ u → h0 ≤ K.length →
    AFunR Tryz.prog 39 [netV n tp ps.length cp, .slice (some ⟨tv, 0, none⟩) l.length cv, .int .i64 src, .slice (some ⟨tw, 0, none⟩) cu.length cw, .bool gt, .slice (some ⟨u, 0, none⟩) a.length d] K (BOut h0 K (bestN (shutL l) (gtOf gt ps l src) (fun a => stepN n ps l src a cu) f a))
  | 0, a, d, u, K, hg, hf, hf7, hP, hS, hC, hu, hub, hkb => absurd hf (Nat.not_lt_zero _)
  | f + 1, a, d, u, K, hg, hf, hf7, hP, hS, hC, hu, hub, hkb => by
    have hle := hg.le
    obtain ⟨hgv, hN, hl10, hsrc, hs6⟩ := askR_at hq
    have hn := hN.f_n
    have hcr := (custOk_at hcu).2
    have hut := Heap.get_lt hu
    have htp := hP.lt
    have htv := hS.lt
    have htw := hC.lt
    have hal : a.length ≤ 6 := by omega
    have hSu0 : Sl nmE K u a := ⟨_, [], hu, by simp⟩
    have hsl := shutL_length l
    have hstp := fun b => stepN_rng hn (ps := ps) (l := l) (src := src) (ids := b) hcr
    have hun : bestN (shutL l) (gtOf gt ps l src) (fun a => stepN n ps l src a cu) (f + 1) a = if a.length = (shutL l).length then (a, 0) else bestEnd (fun a => stepN n ps l src a cu) a (bestTo (bestN (shutL l) (gtOf gt ps l src) (fun a => stepN n ps l src a cu) f) (gtOf gt ps l src) (shutL l) a (shutL l).length) := rfl
    have hrr := fun b => bestN_rng (ids := shutL l) (g := gtOf gt ps l src) (stp := fun a => stepN n ps l src a cu) hstp f b
    have hrr2 := fun k => bestTo_rng (g := gtOf gt ps l src) (ids := shutL l) (a := a) (B := 8000 * (f : Int)) (by omega) hrr k
    refine AFunR.of_body Tryz.func39 (by kernel_rfl) rfl (by kernel_rfl) (by simp [Tryz.ntmps39]) ?_
    simp -dsimp -implicitDefEqProofs (disch := omega) [go_sem, -List.getD_eq_getElem?_getD, ite_yes, htp, htv, htw, hut]
    refine ACall.of (l18Shut_A l (by omega) cv _ tv hS.app) ?_
    by_cases hl : a.length = (shutL l).length
    · have hl' : (a.length : Int) = ((shutL l).length : Int) := by omega
      rw [hun, if_pos hl]
      have kq : KQ K (K ++ [some ⟨[.int .i64 n, .slice (some ⟨tp, 0, none⟩) ps.length cp], true, 26, 1⟩, some ⟨(shutL l).flatMap nmE, true, 3, 1⟩]) := KQ.app
      have vk : VK K (K ++ [some ⟨[.int .i64 n, .slice (some ⟨tp, 0, none⟩) ps.length cp], true, 26, 1⟩, some ⟨(shutL l).flatMap nmE, true, 3, 1⟩]) := by
        have h1 := VK.snoc (K := K) (b := ⟨[.int .i64 n, .slice (some ⟨tp, 0, none⟩) ps.length cp], true, 26, 1⟩) (wm_net (h := K.length) htp _ _ (fun t ht => sg_id (by omega)) (by omega))
        have h2 := VK.snoc (K := K ++ [some ⟨[.int .i64 n, .slice (some ⟨tp, 0, none⟩) ps.length cp], true, 26, 1⟩]) (b := ⟨(shutL l).flatMap nmE, true, 3, 1⟩) (L2.refl fun x hx => WM_flat (List.all_eq_true.1 (nmE_flat _) x hx))
        have := h1.trans h2
        rwa [List.append_assoc] at this
      simp -dsimp -implicitDefEqProofs (disch := omega) [go_sem, -List.getD_eq_getElem?_getD, ite_yes, hl', hl, htp, htv, htw, hut]
      refine EndR.of (.tuple #[.slice (some ⟨u, 0, none⟩) a.length d, .int .i64 0]) _ ⟨u, d, rfl, kq.get hu, vk, kq, hub⟩ (fin_vk vk (by simp -dsimp -implicitDefEqProofs (disch := omega) [go_sem, -List.getD_eq_getElem?_getD, ite_yes, hut]; try omega))
    have hl' : ¬ (a.length : Int) = ((shutL l).length : Int) := by omega
    have hl2 : a.length < (shutL l).length := by omega
    rw [hun, if_neg hl]
    simp -dsimp -implicitDefEqProofs (disch := omega) [go_sem, -List.getD_eq_getElem?_getD, ite_yes, hl', hl, htp, htv, htw, hut]
    have kq0 : KQ K (K ++ [some ⟨[.int .i64 n, .slice (some ⟨tp, 0, none⟩) ps.length cp], true, 26, 1⟩, some ⟨(shutL l).flatMap nmE, true, 3, 1⟩, some ⟨[], true, 3, 1⟩]) := KQ.app
    have vk0 : VK K (K ++ [some ⟨[.int .i64 n, .slice (some ⟨tp, 0, none⟩) ps.length cp], true, 26, 1⟩, some ⟨(shutL l).flatMap nmE, true, 3, 1⟩, some ⟨[], true, 3, 1⟩]) := by
      have h1 := VK.snoc (K := K) (b := ⟨[.int .i64 n, .slice (some ⟨tp, 0, none⟩) ps.length cp], true, 26, 1⟩) (wm_net (h := K.length) htp _ _ (fun t ht => sg_id (by omega)) (by omega))
      have h2 := VK.snoc (K := K ++ [some ⟨[.int .i64 n, .slice (some ⟨tp, 0, none⟩) ps.length cp], true, 26, 1⟩]) (b := ⟨(shutL l).flatMap nmE, true, 3, 1⟩) (L2.refl fun x hx => WM_flat (List.all_eq_true.1 (nmE_flat _) x hx))
      have h3 := VK.snoc (K := K ++ [some ⟨[.int .i64 n, .slice (some ⟨tp, 0, none⟩) ps.length cp], true, 26, 1⟩] ++ [some ⟨(shutL l).flatMap nmE, true, 3, 1⟩]) (b := ⟨[], true, 3, 1⟩) trivial
      have := (h1.trans h2).trans h3
      rwa [List.append_assoc, List.append_assoc] at this
    refine ALoop.intro (ι := Nat × Nat × Nat × Heap) (fun q => q.1 ≤ (shutL l).length ∧ VK K q.2.2.2 ∧ KQ K q.2.2.2 ∧ aCells q.2.2.2 ⟨K.length, 0, none⟩ 2 = some [.int .i64 n, .slice (some ⟨tp, 0, none⟩) ps.length cp] ∧ Sl nmE q.2.2.2 (K.length + 1) (shutL l) ∧ K.length + 1 < q.2.2.2.length ∧ h0 ≤ q.2.1 ∧
        q.2.2.2.get q.2.1 = some ⟨(bestTo (bestN (shutL l) (gtOf gt ps l src) (fun a => stepN n ps l src a cu) f) (gtOf gt ps l src) (shutL l) a q.1).1.flatMap nmE, true, 3, 1⟩)
      (fun q => [(1, .slice (some ⟨tv, 0, none⟩) l.length cv), (2, .int .i64 src), (3, .slice (some ⟨tw, 0, none⟩) cu.length cw), (4, .bool gt), (5, .slice (some ⟨u, 0, none⟩) a.length d), (6, .pointer (some ⟨K.length, 0, none⟩)), (14, .slice (some ⟨K.length + 1, 0, none⟩) (shutL l).length 0),
        (15, .slice (some ⟨q.2.1, 0, none⟩) (bestTo (bestN (shutL l) (gtOf gt ps l src) (fun a => stepN n ps l src a cu) f) (gtOf gt ps l src) (shutL l) a q.1).1.length q.2.2.1), (16, .int .i64 (bestTo (bestN (shutL l) (gtOf gt ps l src) (fun a => stepN n ps l src a cu) f) (gtOf gt ps l src) (shutL l) a q.1).2), (17, .int .i64 q.1)]) (fun q => q.2.2.2) (fun q => (shutL l).length - q.1)
      (0, K.length + 2, 0, K ++ [some ⟨[.int .i64 n, .slice (some ⟨tp, 0, none⟩) ps.length cp], true, 26, 1⟩, some ⟨(shutL l).flatMap nmE, true, 3, 1⟩, some ⟨[], true, 3, 1⟩]) ⟨by omega, vk0, kq0, by simp -dsimp -implicitDefEqProofs (disch := omega) [go_sem, -List.getD_eq_getElem?_getD, ite_yes], Sl.of1 rfl, by simp, by show h0 ≤ K.length + 2; omega, (Heap.get_len_add _ _ 2).trans rfl⟩ ?_ ?_
    · exact weakS_vk vk0 (by simp -dsimp -implicitDefEqProofs (disch := omega) [go_sem, -List.getD_eq_getElem?_getD, ite_yes, htp, htv, htw, hut, bestTo])
    clear vk0 kq0
    rintro ⟨k, g, c, G⟩ ⟨hk, hV, hQ, cnet, cids, hlen, hgb, hgg⟩
    simp only at hk hV hQ cnet cids hlen hgb hgg ⊢
    have gtp : tp < G.length := Nat.lt_of_lt_of_le htp hQ.1
    have gtv : tv < G.length := Nat.lt_of_lt_of_le htv hQ.1
    have gtw : tw < G.length := Nat.lt_of_lt_of_le htw hQ.1
    have gut : u < G.length := Nat.lt_of_lt_of_le hut hQ.1
    have ggt := Heap.get_lt hgg
    have gP := hQ.sl hP
    have hlen0 : K.length < G.length := by omega
    have gS := hQ.sl hS
    have gC := hQ.sl hC
    have gA := hQ.get hu
    have gSu : Sl nmE G u a := ⟨_, [], gA, by simp⟩
    by_cases hlt : k < (shutL l).length
    rotate_left
    · obtain rfl : k = (shutL l).length := by omega
      have hR := hrr2 (shutL l).length
      generalize bestTo (bestN (shutL l) (gtOf gt ps l src) (fun a => stepN n ps l src a cu) f) (gtOf gt ps l src) (shutL l) a (shutL l).length = R at *
      have hst := hstp a
      have A := l18Step_A n ps hN cp l (by omega) cv src hsrc a (by omega) d 0 cu hcu cw G tp tv u tw gP gS (IdS.of gSu) gC
      generalize hstv : stepN n ps l src a cu = st at *
      by_cases hneg : R.2 < 0
      · simp -dsimp -implicitDefEqProofs (disch := omega) [go_sem, -List.getD_eq_getElem?_getD, ite_yes, hlt, hneg]
        exact EndR.of (.tuple #[.slice (some ⟨g, 0, none⟩) R.1.length c, .int .i64 R.2]) G ⟨g, c, by rw [bestEnd, if_pos hneg], by rw [bestEnd, if_pos hneg]; exact hgg, hV, hQ, hgb⟩ (fin_vk hV (by simp -dsimp -implicitDefEqProofs (disch := omega) [go_sem, -List.getD_eq_getElem?_getD, ite_yes, ggt]))
      · simp -dsimp -implicitDefEqProofs (disch := omega) [go_sem, -List.getD_eq_getElem?_getD, ite_yes, hlt, hneg, cnet]
        refine ACall.of A ?_
        simp -dsimp -implicitDefEqProofs (disch := omega) [go_sem, -List.getD_eq_getElem?_getD, ite_yes]
        exact EndR.of (.tuple #[.slice (some ⟨g, 0, none⟩) R.1.length c, .int .i64 (R.2 + st)]) G ⟨g, c, by rw [bestEnd, if_neg hneg]; simp only [hstv], by rw [bestEnd, if_neg hneg]; exact hgg, hV, hQ, hgb⟩ (fin_vk hV (by simp -dsimp -implicitDefEqProofs (disch := omega) [go_sem, -List.getD_eq_getElem?_getD, ite_yes, ggt]))
    have c1 := cids.one (g := fun n => Value.int .i64 n) 0 k hlt
    have hlti : (k : Int) < ((shutL l).length : Int) := by omega
    have hidm : hasI (shutL l) ((shutL l).getD k 0) = true := by
      refine decide_eq_true ?_
      rw [List.getD_eq_getElem?_getD, List.getElem?_eq_getElem hlt]; exact List.getElem_mem hlt
    have e : bestTo (bestN (shutL l) (gtOf gt ps l src) (fun a => stepN n ps l src a cu) f) (gtOf gt ps l src) (shutL l) a (k + 1) = if hasI a ((shutL l).getD k 0) = true ∨ gtOf gt ps l src a ((shutL l).getD k 0) = false then bestTo (bestN (shutL l) (gtOf gt ps l src) (fun a => stepN n ps l src a cu) f) (gtOf gt ps l src) (shutL l) a k else
        if 0 ≤ (bestN (shutL l) (gtOf gt ps l src) (fun a => stepN n ps l src a cu) f (a ++ [(shutL l).getD k 0])).2 ∧ ((bestTo (bestN (shutL l) (gtOf gt ps l src) (fun a => stepN n ps l src a cu) f) (gtOf gt ps l src) (shutL l) a k).2 < 0 ∨ (bestN (shutL l) (gtOf gt ps l src) (fun a => stepN n ps l src a cu) f (a ++ [(shutL l).getD k 0])).2 < (bestTo (bestN (shutL l) (gtOf gt ps l src) (fun a => stepN n ps l src a cu) f) (gtOf gt ps l src) (shutL l) a k).2) then bestN (shutL l) (gtOf gt ps l src) (fun a => stepN n ps l src a cu) f (a ++ [(shutL l).getD k 0]) else bestTo (bestN (shutL l) (gtOf gt ps l src) (fun a => stepN n ps l src a cu) f) (gtOf gt ps l src) (shutL l) a k := rfl
    have rE : hasI a ((shutL l).getD k 0) = false → ∀ (d' u' : Nat) (G' : Heap), Sl ppE G' tp ps → Sl vlE G' tv l → Sl nmE G' tw cu → G'.get u' = some ⟨(a ++ [(shutL l).getD k 0]).flatMap nmE, true, 3, 1⟩ → h0 ≤ u' → h0 ≤ G'.length →
        AFunR Tryz.prog 39 [netV n tp ps.length cp, .slice (some ⟨tv, 0, none⟩) l.length cv, .int .i64 src, .slice (some ⟨tw, 0, none⟩) cu.length cw, .bool gt, .slice (some ⟨u', 0, none⟩) (a.length + 1) d'] G' (BOut h0 G' (bestN (shutL l) (gtOf gt ps l src) (fun a => stepN n ps l src a cu) f (a ++ [(shutL l).getD k 0]))) := by
      intro h1 d' u' G' h2 h3 h4 h5 h6 h7
      have hgood := hg.snoc hlt h1
      have := l18Best_R n ps l src cu hq hcu gt tp cp tv cv tw cw h0 f (a ++ [(shutL l).getD k 0]) d' u' G' hgood (by rw [List.length_append, List.length_singleton]; have := hgood.le; rw [List.length_append, List.length_singleton] at this; omega) (by omega) h2 h3 h4 h5 h6 h7
      rwa [List.length_append, List.length_singleton] at this
    have hr' := hrr (a ++ [(shutL l).getD k 0])
    have hR := hrr2 k
    have eap : (a ++ [(shutL l).getD k 0]).flatMap nmE = a.flatMap nmE ++ [.int .i64 ((shutL l).getD k 0)] := by rw [List.flatMap_append]; rfl
    have hfa : (a.flatMap nmE).length = a.length := by rw [nmE_length]; omega
    generalize bestN (shutL l) (gtOf gt ps l src) (fun a => stepN n ps l src a cu) f (a ++ [(shutL l).getD k 0]) = r at *
    generalize hRk : bestTo (bestN (shutL l) (gtOf gt ps l src) (fun a => stepN n ps l src a cu) f) (gtOf gt ps l src) (shutL l) a k = R at *
    generalize (shutL l).getD k 0 = id at *
    have stay : bestTo (bestN (shutL l) (gtOf gt ps l src) (fun a => stepN n ps l src a cu) f) (gtOf gt ps l src) (shutL l) a (k + 1) = R →
        G.get g = some ⟨(bestTo (bestN (shutL l) (gtOf gt ps l src) (fun a => stepN n ps l src a cu) f) (gtOf gt ps l src) (shutL l) a (k + 1)).1.flatMap nmE, true, 3, 1⟩ := fun h => by rw [h]; exact hgg
    simp -dsimp -implicitDefEqProofs (disch := omega) [go_sem, -List.getD_eq_getElem?_getD, ite_yes, hlti, hlt]
    by_cases hsk : hasI a id = true ∨ gtOf gt ps l src a id = false
    · rw [if_pos hsk] at e
      refine ADraw.mid [(1, .slice (some ⟨tv, 0, none⟩) l.length cv), (2, .int .i64 src), (3, .slice (some ⟨tw, 0, none⟩) cu.length cw), (4, .bool gt), (5, .slice (some ⟨u, 0, none⟩) a.length d), (6, .pointer (some ⟨K.length, 0, none⟩)), (14, .slice (some ⟨K.length + 1, 0, none⟩) (shutL l).length 0), (15, .slice (some ⟨g, 0, none⟩) R.1.length c), (16, .int .i64 R.2), (17, .int .i64 k), (55, .bool true)] G ?_ ?_
      · cases h1 : hasI a id
        · have hgt : gt = true := by
            cases gt
            · rcases hsk with h | h
              · rw [h1] at h; cases h
              · cases h
            · rfl
          subst hgt
          have h2 : (rchB ps l src a id || !rchB ps l src (shutL l) id) = false := by
            rcases hsk with h | h
            · rw [h1] at h; cases h
            · exact h
          refine ADraw.quiet (by kernel_rfl) (by kernel_rfl) (by kernel_rfl) ?_
          simp -dsimp -implicitDefEqProofs (disch := omega) [go_sem, -List.getD_eq_getElem?_getD, ite_yes, hlti, hlt, c1, hlen, hlen0, cnet]
          refine ACallQ.of (l1Has_A a id (by omega) d _ u gSu.ro) rfl ?_
          simp -dsimp -implicitDefEqProofs (disch := omega) [go_sem, -List.getD_eq_getElem?_getD, ite_yes, h1, hlti, hlt, c1, hlen, hlen0, cnet]
          refine ACallQ.of (l18Gentle_A n ps cp l hgv cv src hsrc a (by omega) d 0 id hidm _ tp tv u gP.ro gS.ro (IdS.of gSu).ro) rfl ?_
          rw [h2]
          simp -dsimp -implicitDefEqProofs (disch := omega) [go_sem, -List.getD_eq_getElem?_getD, ite_yes]
          exact ⟨weakS_vk hV (by simp -dsimp -implicitDefEqProofs (disch := omega) [go_sem, -List.getD_eq_getElem?_getD, ite_yes, gtp, gtv, gtw, gut, ggt, hlen, hlen0])⟩
        · skip
          refine ADraw.quiet (by kernel_rfl) (by kernel_rfl) (by kernel_rfl) ?_
          simp -dsimp -implicitDefEqProofs (disch := omega) [go_sem, -List.getD_eq_getElem?_getD, ite_yes, hlti, hlt, c1, hlen, hlen0, cnet]
          refine ACallQ.of (l1Has_A a id (by omega) d _ u gSu.ro) rfl ?_
          simp -dsimp -implicitDefEqProofs (disch := omega) [go_sem, -List.getD_eq_getElem?_getD, ite_yes, h1]
          exact ⟨weakS_vk hV (by simp -dsimp -implicitDefEqProofs (disch := omega) [go_sem, -List.getD_eq_getElem?_getD, ite_yes, gtp, gtv, gtw, gut, ggt, hlen, hlen0])⟩
      simp -dsimp -implicitDefEqProofs (disch := omega) [go_sem, -List.getD_eq_getElem?_getD, ite_yes]
      exact LoopEnd.of (k + 1, g, c, G) ⟨by omega, hV, hQ, cnet, cids, hlen, hgb, stay e⟩ (by omega) (weakS_vk hV (by simp -dsimp -implicitDefEqProofs (disch := omega) [go_sem, -List.getD_eq_getElem?_getD, ite_yes, gtp, gtv, gtw, gut, ggt, hlen, hlen0, e]))
    refine ADraw.mid [(1, .slice (some ⟨tv, 0, none⟩) l.length cv), (2, .int .i64 src), (3, .slice (some ⟨tw, 0, none⟩) cu.length cw), (4, .bool gt), (5, .slice (some ⟨u, 0, none⟩) a.length d), (6, .pointer (some ⟨K.length, 0, none⟩)), (14, .slice (some ⟨K.length + 1, 0, none⟩) (shutL l).length 0), (15, .slice (some ⟨g, 0, none⟩) R.1.length c), (16, .int .i64 R.2), (17, .int .i64 k), (55, .bool false)] G ?_ ?_
    · have h1 : hasI a id = false := by cases h : hasI a id; (· rfl); (· exact absurd (.inl h) hsk)
      cases gt
      · skip
        refine ADraw.quiet (by kernel_rfl) (by kernel_rfl) (by kernel_rfl) ?_
        simp -dsimp -implicitDefEqProofs (disch := omega) [go_sem, -List.getD_eq_getElem?_getD, ite_yes, hlti, hlt, c1, hlen, hlen0, cnet]
        refine ACallQ.of (l1Has_A a id (by omega) d _ u gSu.ro) rfl ?_
        simp -dsimp -implicitDefEqProofs (disch := omega) [go_sem, -List.getD_eq_getElem?_getD, ite_yes, h1]
        exact ⟨weakS_vk hV (by simp -dsimp -implicitDefEqProofs (disch := omega) [go_sem, -List.getD_eq_getElem?_getD, ite_yes, gtp, gtv, gtw, gut, ggt, hlen, hlen0])⟩
      · have h2 : (rchB ps l src a id || !rchB ps l src (shutL l) id) = true := by
          cases h : (rchB ps l src a id || !rchB ps l src (shutL l) id)
          · exact absurd (.inr h) hsk
          · rfl
        refine ADraw.quiet (by kernel_rfl) (by kernel_rfl) (by kernel_rfl) ?_
        simp -dsimp -implicitDefEqProofs (disch := omega) [go_sem, -List.getD_eq_getElem?_getD, ite_yes, hlti, hlt, c1, hlen, hlen0, cnet]
        refine ACallQ.of (l1Has_A a id (by omega) d _ u gSu.ro) rfl ?_
        simp -dsimp -implicitDefEqProofs (disch := omega) [go_sem, -List.getD_eq_getElem?_getD, ite_yes, h1, hlti, hlt, c1, hlen, hlen0, cnet]
        refine ACallQ.of (l18Gentle_A n ps cp l hgv cv src hsrc a (by omega) d 0 id hidm _ tp tv u gP.ro gS.ro (IdS.of gSu).ro) rfl ?_
        rw [h2]
        simp -dsimp -implicitDefEqProofs (disch := omega) [go_sem, -List.getD_eq_getElem?_getD, ite_yes]
        exact ⟨weakS_vk hV (by simp -dsimp -implicitDefEqProofs (disch := omega) [go_sem, -List.getD_eq_getElem?_getD, ite_yes, gtp, gtv, gtw, gut, ggt, hlen, hlen0])⟩
    have hns : ¬ (hasI a id = true ∨ gtOf gt ps l src a id = false) := hsk
    rw [if_neg hns] at e
    have h1 : hasI a id = false := by cases h : hasI a id ; (· rfl); (· exact absurd (.inl h) hns)
    simp -dsimp -implicitDefEqProofs (disch := omega) [go_sem, -List.getD_eq_getElem?_getD, ite_yes]
    refine ADraw.midR (fun fr1 H1 => ∃ g' c', fr1 = [(1, .slice (some ⟨tv, 0, none⟩) l.length cv), (2, .int .i64 src), (3, .slice (some ⟨tw, 0, none⟩) cu.length cw), (4, .bool gt), (5, .slice (some ⟨u, 0, none⟩) a.length d), (6, .pointer (some ⟨K.length, 0, none⟩)), (14, .slice (some ⟨K.length + 1, 0, none⟩) (shutL l).length 0), (15, .slice (some ⟨g, 0, none⟩) R.1.length c), (16, .int .i64 R.2), (17, .int .i64 k), (18, .slice (some ⟨g', 0, none⟩) r.1.length c'), (19, .int .i64 r.2)] ∧ H1.get g' = some ⟨r.1.flatMap nmE, true, 3, 1⟩ ∧ KQ G H1 ∧ VK K H1 ∧ h0 ≤ g' ∧ g' < H1.length) ?_ ?_
    · skip
      refine ADraw.any G (by kernel_rfl) (SubH.refl) ?_
      refine AAny.takes (fuel := 10) (by kernel_rfl) (by kernel_rfl) [1, 2, 3, 4, 5, 7, 8, 9, 10] (by kernel_rfl) (by kernel_rfl) ?_
      simp -dsimp -implicitDefEqProofs (disch := omega) [go_sem, -List.getD_eq_getElem?_getD, ite_yes, hlti, hlt, c1, hlen, hlen0, cnet, gut, hfa]
      refine AAny.three 9 0 6 11 (by kernel_rfl) (by kernel_rfl) (by kernel_rfl) ?_ ?_ ?_
      · simp -dsimp -implicitDefEqProofs (disch := omega) [go_sem, -List.getD_eq_getElem?_getD, ite_yes, hlti, hlt, c1, hlen, hlen0, cnet, gut, hfa]
        refine AAt.of (by first | exact SubH.refl | exact SubH.app | exact (KQ.app.trans hQ').sub) ?_
        refine AAny.two 8 6 11 (by kernel_rfl) (by kernel_rfl) (by kernel_rfl) ?_ ?_
        · simp -dsimp -implicitDefEqProofs (disch := omega) [go_sem, -List.getD_eq_getElem?_getD, ite_yes, hlti, hlt, c1, hlen, hlen0, cnet, gut, hfa]
          first | refine ACall.of (l1Own_A a (by omega) d _ u gSu) ?_ | refine ACall.of (l1Own_A a (by omega) d _ u gSu.app) ?_
          simp -dsimp -implicitDefEqProofs (disch := omega) [go_sem, -List.getD_eq_getElem?_getD, ite_yes, hlti, hlt, c1, hlen, hlen0, cnet, gut, hfa]
          refine AAt.of (by first | exact SubH.refl | exact SubH.app | exact (KQ.app.trans hQ').sub) ?_
          refine AAny.one1 7 11 ?_
          simp -dsimp -implicitDefEqProofs (disch := omega) [go_sem, -List.getD_eq_getElem?_getD, ite_yes, hlti, hlt, c1, hlen, hlen0, cnet, gut, hfa]
          refine AAt.of (by first | exact SubH.refl | exact SubH.app | exact (KQ.app.trans hQ').sub) ?_
          refine AAny.one1 6 12 ?_
          simp -dsimp -implicitDefEqProofs (disch := omega) [go_sem, -List.getD_eq_getElem?_getD, ite_yes, hlti, hlt, c1, hlen, hlen0, cnet, gut, hfa]
          first | refine AAt.of (by first | exact SubH.refl | exact SubH.app | exact (KQ.app.trans hQ').sub) ?_ | (refine ⟨?_, AAt.of (by first | exact SubH.refl | exact SubH.app | exact (KQ.app.trans hQ').sub) ?_⟩; · omega)
          refine AAny.one1 5 13 ?_
          simp -dsimp -implicitDefEqProofs (disch := omega) [go_sem, -List.getD_eq_getElem?_getD, ite_yes, hlti, hlt, c1, hlen, hlen0, cnet, gut, hfa]
          refine ACall.via (rE h1 _ (G.length + 2) _ gP.app gS.app gC.app ((Heap.get_len_add _ _ 2).trans (by rw [eap]; rfl)) (by have := hQ.1; omega) (by have := hQ.1; simp; omega)) ?_
          rintro v G' ⟨g', c', rfl, hg', hV', hQ', hgb'⟩
          simp -dsimp -implicitDefEqProofs (disch := omega) [go_sem, -List.getD_eq_getElem?_getD, ite_yes, hlti, hlt, c1, hlen, hlen0, cnet, gut, hfa]
          refine AAt.of (by first | exact SubH.refl | exact SubH.app | exact (KQ.app.trans hQ').sub) ?_
          refine AAny.takes (fuel := 0) (by kernel_rfl) (by kernel_rfl) [14, 15, 16, 17, 18] (by kernel_rfl) (by kernel_rfl) ?_
          simp -dsimp -implicitDefEqProofs (disch := omega) [go_sem, -List.getD_eq_getElem?_getD, ite_yes, hlti, hlt, c1, hlen, hlen0, cnet, gut, hfa]
          refine AAny.done (by kernel_rfl) ?_
          simp -dsimp -implicitDefEqProofs (disch := omega) [go_sem, -List.getD_eq_getElem?_getD, ite_yes, hlti, hlt, c1, hlen, hlen0, cnet, gut, hfa]
          have kq := KQ.app.trans hQ'
          have kV := (hV.trans (VK.app (flat3 (by first | exact trivial | exact (rfl : ([Value.int .i64 id] : List Value).all flat = true) | exact nmE_flat _ | exact eap ▸ nmE_flat _) (by first | exact trivial | exact (rfl : ([Value.int .i64 id] : List Value).all flat = true) | exact nmE_flat _ | exact eap ▸ nmE_flat _) (by first | exact trivial | exact (rfl : ([Value.int .i64 id] : List Value).all flat = true) | exact nmE_flat _ | exact eap ▸ nmE_flat _)))).trans hV'
          have k1 := Nat.lt_of_lt_of_le gtp kq.1
          have k2 := Nat.lt_of_lt_of_le gtv kq.1
          have k3 := Nat.lt_of_lt_of_le gtw kq.1
          have k4 := Nat.lt_of_lt_of_le gut kq.1
          have k5 := Nat.lt_of_lt_of_le ggt kq.1
          have k6 := Nat.lt_of_lt_of_le hlen kq.1
          have k7 := Heap.get_lt hg'
          have k0 : K.length < G'.length := by omega
          exact ⟨_, G', ⟨g', ⟨c', rfl⟩, hg', kq, kV, hgb', k7⟩, weakS_vk kV (by simp -dsimp -implicitDefEqProofs (disch := omega) [go_sem, -List.getD_eq_getElem?_getD, ite_yes, k0, k1, k2, k3, k4, k5, k6, k7])⟩
        · simp -dsimp -implicitDefEqProofs (disch := omega) [go_sem, -List.getD_eq_getElem?_getD, ite_yes, hlti, hlt, c1, hlen, hlen0, cnet, gut, hfa]
          refine AAt.of (by first | exact SubH.refl | exact SubH.app | exact (KQ.app.trans hQ').sub) ?_
          refine AAny.one1 7 6 ?_
          simp -dsimp -implicitDefEqProofs (disch := omega) [go_sem, -List.getD_eq_getElem?_getD, ite_yes, hlti, hlt, c1, hlen, hlen0, cnet, gut, hfa]
          first | refine ACall.of (l1Own_A a (by omega) d _ u gSu) ?_ | refine ACall.of (l1Own_A a (by omega) d _ u gSu.app) ?_
          simp -dsimp -implicitDefEqProofs (disch := omega) [go_sem, -List.getD_eq_getElem?_getD, ite_yes, hlti, hlt, c1, hlen, hlen0, cnet, gut, hfa]
          refine AAt.of (by first | exact SubH.refl | exact SubH.app | exact (KQ.app.trans hQ').sub) ?_
          refine AAny.one1 6 12 ?_
          simp -dsimp -implicitDefEqProofs (disch := omega) [go_sem, -List.getD_eq_getElem?_getD, ite_yes, hlti, hlt, c1, hlen, hlen0, cnet, gut, hfa]
          first | refine AAt.of (by first | exact SubH.refl | exact SubH.app | exact (KQ.app.trans hQ').sub) ?_ | (refine ⟨?_, AAt.of (by first | exact SubH.refl | exact SubH.app | exact (KQ.app.trans hQ').sub) ?_⟩; · omega)
          refine AAny.one1 5 13 ?_
          simp -dsimp -implicitDefEqProofs (disch := omega) [go_sem, -List.getD_eq_getElem?_getD, ite_yes, hlti, hlt, c1, hlen, hlen0, cnet, gut, hfa]
          refine ACall.via (rE h1 _ (G.length + 2) _ gP.app gS.app gC.app ((Heap.get_len_add _ _ 2).trans (by rw [eap]; rfl)) (by have := hQ.1; omega) (by have := hQ.1; simp; omega)) ?_
          rintro v G' ⟨g', c', rfl, hg', hV', hQ', hgb'⟩
          simp -dsimp -implicitDefEqProofs (disch := omega) [go_sem, -List.getD_eq_getElem?_getD, ite_yes, hlti, hlt, c1, hlen, hlen0, cnet, gut, hfa]
          refine AAt.of (by first | exact SubH.refl | exact SubH.app | exact (KQ.app.trans hQ').sub) ?_
          refine AAny.takes (fuel := 0) (by kernel_rfl) (by kernel_rfl) [14, 15, 16, 17, 18] (by kernel_rfl) (by kernel_rfl) ?_
          simp -dsimp -implicitDefEqProofs (disch := omega) [go_sem, -List.getD_eq_getElem?_getD, ite_yes, hlti, hlt, c1, hlen, hlen0, cnet, gut, hfa]
          refine AAny.done (by kernel_rfl) ?_
          simp -dsimp -implicitDefEqProofs (disch := omega) [go_sem, -List.getD_eq_getElem?_getD, ite_yes, hlti, hlt, c1, hlen, hlen0, cnet, gut, hfa]
          have kq := KQ.app.trans hQ'
          have kV := (hV.trans (VK.app (flat3 (by first | exact trivial | exact (rfl : ([Value.int .i64 id] : List Value).all flat = true) | exact nmE_flat _ | exact eap ▸ nmE_flat _) (by first | exact trivial | exact (rfl : ([Value.int .i64 id] : List Value).all flat = true) | exact nmE_flat _ | exact eap ▸ nmE_flat _) (by first | exact trivial | exact (rfl : ([Value.int .i64 id] : List Value).all flat = true) | exact nmE_flat _ | exact eap ▸ nmE_flat _)))).trans hV'
          have k1 := Nat.lt_of_lt_of_le gtp kq.1
          have k2 := Nat.lt_of_lt_of_le gtv kq.1
          have k3 := Nat.lt_of_lt_of_le gtw kq.1
          have k4 := Nat.lt_of_lt_of_le gut kq.1
          have k5 := Nat.lt_of_lt_of_le ggt kq.1
          have k6 := Nat.lt_of_lt_of_le hlen kq.1
          have k7 := Heap.get_lt hg'
          have k0 : K.length < G'.length := by omega
          exact ⟨_, G', ⟨g', ⟨c', rfl⟩, hg', kq, kV, hgb', k7⟩, weakS_vk kV (by simp -dsimp -implicitDefEqProofs (disch := omega) [go_sem, -List.getD_eq_getElem?_getD, ite_yes, k0, k1, k2, k3, k4, k5, k6, k7])⟩
      · simp -dsimp -implicitDefEqProofs (disch := omega) [go_sem, -List.getD_eq_getElem?_getD, ite_yes, hlti, hlt, c1, hlen, hlen0, cnet, gut, hfa]
        first | refine ACall.of (l1Own_A a (by omega) d _ u gSu) ?_ | refine ACall.of (l1Own_A a (by omega) d _ u gSu.app) ?_
        simp -dsimp -implicitDefEqProofs (disch := omega) [go_sem, -List.getD_eq_getElem?_getD, ite_yes, hlti, hlt, c1, hlen, hlen0, cnet, gut, hfa]
        refine AAt.of (by first | exact SubH.refl | exact SubH.app | exact (KQ.app.trans hQ').sub) ?_
        refine AAny.two 8 0 11 (by kernel_rfl) (by kernel_rfl) (by kernel_rfl) ?_ ?_
        · simp -dsimp -implicitDefEqProofs (disch := omega) [go_sem, -List.getD_eq_getElem?_getD, ite_yes, hlti, hlt, c1, hlen, hlen0, cnet, gut, hfa]
          refine AAt.of (by first | exact SubH.refl | exact SubH.app | exact (KQ.app.trans hQ').sub) ?_
          refine AAny.one1 7 11 ?_
          simp -dsimp -implicitDefEqProofs (disch := omega) [go_sem, -List.getD_eq_getElem?_getD, ite_yes, hlti, hlt, c1, hlen, hlen0, cnet, gut, hfa]
          refine AAt.of (by first | exact SubH.refl | exact SubH.app | exact (KQ.app.trans hQ').sub) ?_
          refine AAny.one1 6 12 ?_
          simp -dsimp -implicitDefEqProofs (disch := omega) [go_sem, -List.getD_eq_getElem?_getD, ite_yes, hlti, hlt, c1, hlen, hlen0, cnet, gut, hfa]
          first | refine AAt.of (by first | exact SubH.refl | exact SubH.app | exact (KQ.app.trans hQ').sub) ?_ | (refine ⟨?_, AAt.of (by first | exact SubH.refl | exact SubH.app | exact (KQ.app.trans hQ').sub) ?_⟩; · omega)
          refine AAny.one1 5 13 ?_
          simp -dsimp -implicitDefEqProofs (disch := omega) [go_sem, -List.getD_eq_getElem?_getD, ite_yes, hlti, hlt, c1, hlen, hlen0, cnet, gut, hfa]
          refine ACall.via (rE h1 _ (G.length + 2) _ gP.app gS.app gC.app ((Heap.get_len_add _ _ 2).trans (by rw [eap]; rfl)) (by have := hQ.1; omega) (by have := hQ.1; simp; omega)) ?_
          rintro v G' ⟨g', c', rfl, hg', hV', hQ', hgb'⟩
          simp -dsimp -implicitDefEqProofs (disch := omega) [go_sem, -List.getD_eq_getElem?_getD, ite_yes, hlti, hlt, c1, hlen, hlen0, cnet, gut, hfa]
          refine AAt.of (by first | exact SubH.refl | exact SubH.app | exact (KQ.app.trans hQ').sub) ?_
          refine AAny.takes (fuel := 0) (by kernel_rfl) (by kernel_rfl) [14, 15, 16, 17, 18] (by kernel_rfl) (by kernel_rfl) ?_
          simp -dsimp -implicitDefEqProofs (disch := omega) [go_sem, -List.getD_eq_getElem?_getD, ite_yes, hlti, hlt, c1, hlen, hlen0, cnet, gut, hfa]
          refine AAny.done (by kernel_rfl) ?_
          simp -dsimp -implicitDefEqProofs (disch := omega) [go_sem, -List.getD_eq_getElem?_getD, ite_yes, hlti, hlt, c1, hlen, hlen0, cnet, gut, hfa]
          have kq := KQ.app.trans hQ'
          have kV := (hV.trans (VK.app (flat3 (by first | exact trivial | exact (rfl : ([Value.int .i64 id] : List Value).all flat = true) | exact nmE_flat _ | exact eap ▸ nmE_flat _) (by first | exact trivial | exact (rfl : ([Value.int .i64 id] : List Value).all flat = true) | exact nmE_flat _ | exact eap ▸ nmE_flat _) (by first | exact trivial | exact (rfl : ([Value.int .i64 id] : List Value).all flat = true) | exact nmE_flat _ | exact eap ▸ nmE_flat _)))).trans hV'
          have k1 := Nat.lt_of_lt_of_le gtp kq.1
          have k2 := Nat.lt_of_lt_of_le gtv kq.1
          have k3 := Nat.lt_of_lt_of_le gtw kq.1
          have k4 := Nat.lt_of_lt_of_le gut kq.1
          have k5 := Nat.lt_of_lt_of_le ggt kq.1
          have k6 := Nat.lt_of_lt_of_le hlen kq.1
          have k7 := Heap.get_lt hg'
          have k0 : K.length < G'.length := by omega
          exact ⟨_, G', ⟨g', ⟨c', rfl⟩, hg', kq, kV, hgb', k7⟩, weakS_vk kV (by simp -dsimp -implicitDefEqProofs (disch := omega) [go_sem, -List.getD_eq_getElem?_getD, ite_yes, k0, k1, k2, k3, k4, k5, k6, k7])⟩
        · simp -dsimp -implicitDefEqProofs (disch := omega) [go_sem, -List.getD_eq_getElem?_getD, ite_yes, hlti, hlt, c1, hlen, hlen0, cnet, gut, hfa]
          refine AAt.of (by first | exact SubH.refl | exact SubH.app | exact (KQ.app.trans hQ').sub) ?_
          refine AAny.two 7 0 12 (by kernel_rfl) (by kernel_rfl) (by kernel_rfl) ?_ ?_
          · simp -dsimp -implicitDefEqProofs (disch := omega) [go_sem, -List.getD_eq_getElem?_getD, ite_yes, hlti, hlt, c1, hlen, hlen0, cnet, gut, hfa]
            refine AAt.of (by first | exact SubH.refl | exact SubH.app | exact (KQ.app.trans hQ').sub) ?_
            refine AAny.one1 6 12 ?_
            simp -dsimp -implicitDefEqProofs (disch := omega) [go_sem, -List.getD_eq_getElem?_getD, ite_yes, hlti, hlt, c1, hlen, hlen0, cnet, gut, hfa]
            first | refine AAt.of (by first | exact SubH.refl | exact SubH.app | exact (KQ.app.trans hQ').sub) ?_ | (refine ⟨?_, AAt.of (by first | exact SubH.refl | exact SubH.app | exact (KQ.app.trans hQ').sub) ?_⟩; · omega)
            refine AAny.one1 5 13 ?_
            simp -dsimp -implicitDefEqProofs (disch := omega) [go_sem, -List.getD_eq_getElem?_getD, ite_yes, hlti, hlt, c1, hlen, hlen0, cnet, gut, hfa]
            refine ACall.via (rE h1 _ (G.length + 2) _ gP.app gS.app gC.app ((Heap.get_len_add _ _ 2).trans (by rw [eap]; rfl)) (by have := hQ.1; omega) (by have := hQ.1; simp; omega)) ?_
            rintro v G' ⟨g', c', rfl, hg', hV', hQ', hgb'⟩
            simp -dsimp -implicitDefEqProofs (disch := omega) [go_sem, -List.getD_eq_getElem?_getD, ite_yes, hlti, hlt, c1, hlen, hlen0, cnet, gut, hfa]
            refine AAt.of (by first | exact SubH.refl | exact SubH.app | exact (KQ.app.trans hQ').sub) ?_
            refine AAny.takes (fuel := 0) (by kernel_rfl) (by kernel_rfl) [14, 15, 16, 17, 18] (by kernel_rfl) (by kernel_rfl) ?_
            simp -dsimp -implicitDefEqProofs (disch := omega) [go_sem, -List.getD_eq_getElem?_getD, ite_yes, hlti, hlt, c1, hlen, hlen0, cnet, gut, hfa]
            refine AAny.done (by kernel_rfl) ?_
            simp -dsimp -implicitDefEqProofs (disch := omega) [go_sem, -List.getD_eq_getElem?_getD, ite_yes, hlti, hlt, c1, hlen, hlen0, cnet, gut, hfa]
            have kq := KQ.app.trans hQ'
            have kV := (hV.trans (VK.app (flat3 (by first | exact trivial | exact (rfl : ([Value.int .i64 id] : List Value).all flat = true) | exact nmE_flat _ | exact eap ▸ nmE_flat _) (by first | exact trivial | exact (rfl : ([Value.int .i64 id] : List Value).all flat = true) | exact nmE_flat _ | exact eap ▸ nmE_flat _) (by first | exact trivial | exact (rfl : ([Value.int .i64 id] : List Value).all flat = true) | exact nmE_flat _ | exact eap ▸ nmE_flat _)))).trans hV'
            have k1 := Nat.lt_of_lt_of_le gtp kq.1
            have k2 := Nat.lt_of_lt_of_le gtv kq.1
            have k3 := Nat.lt_of_lt_of_le gtw kq.1
            have k4 := Nat.lt_of_lt_of_le gut kq.1
            have k5 := Nat.lt_of_lt_of_le ggt kq.1
            have k6 := Nat.lt_of_lt_of_le hlen kq.1
            have k7 := Heap.get_lt hg'
            have k0 : K.length < G'.length := by omega
            exact ⟨_, G', ⟨g', ⟨c', rfl⟩, hg', kq, kV, hgb', k7⟩, weakS_vk kV (by simp -dsimp -implicitDefEqProofs (disch := omega) [go_sem, -List.getD_eq_getElem?_getD, ite_yes, k0, k1, k2, k3, k4, k5, k6, k7])⟩
          · simp -dsimp -implicitDefEqProofs (disch := omega) [go_sem, -List.getD_eq_getElem?_getD, ite_yes, hlti, hlt, c1, hlen, hlen0, cnet, gut, hfa]
            first | refine AAt.of (by first | exact SubH.refl | exact SubH.app | exact (KQ.app.trans hQ').sub) ?_ | (refine ⟨?_, AAt.of (by first | exact SubH.refl | exact SubH.app | exact (KQ.app.trans hQ').sub) ?_⟩; · omega)
            refine AAny.one1 6 0 ?_
            simp -dsimp -implicitDefEqProofs (disch := omega) [go_sem, -List.getD_eq_getElem?_getD, ite_yes, hlti, hlt, c1, hlen, hlen0, cnet, gut, hfa]
            refine AAt.of (by first | exact SubH.refl | exact SubH.app | exact (KQ.app.trans hQ').sub) ?_
            refine AAny.one1 5 13 ?_
            simp -dsimp -implicitDefEqProofs (disch := omega) [go_sem, -List.getD_eq_getElem?_getD, ite_yes, hlti, hlt, c1, hlen, hlen0, cnet, gut, hfa]
            refine ACall.via (rE h1 _ (G.length + 2) _ gP.app gS.app gC.app ((Heap.get_len_add _ _ 2).trans (by rw [eap]; rfl)) (by have := hQ.1; omega) (by have := hQ.1; simp; omega)) ?_
            rintro v G' ⟨g', c', rfl, hg', hV', hQ', hgb'⟩
            simp -dsimp -implicitDefEqProofs (disch := omega) [go_sem, -List.getD_eq_getElem?_getD, ite_yes, hlti, hlt, c1, hlen, hlen0, cnet, gut, hfa]
            refine AAt.of (by first | exact SubH.refl | exact SubH.app | exact (KQ.app.trans hQ').sub) ?_
            refine AAny.takes (fuel := 0) (by kernel_rfl) (by kernel_rfl) [14, 15, 16, 17, 18] (by kernel_rfl) (by kernel_rfl) ?_
            simp -dsimp -implicitDefEqProofs (disch := omega) [go_sem, -List.getD_eq_getElem?_getD, ite_yes, hlti, hlt, c1, hlen, hlen0, cnet, gut, hfa]
            refine AAny.done (by kernel_rfl) ?_
            simp -dsimp -implicitDefEqProofs (disch := omega) [go_sem, -List.getD_eq_getElem?_getD, ite_yes, hlti, hlt, c1, hlen, hlen0, cnet, gut, hfa]
            have kq := KQ.app.trans hQ'
            have kV := (hV.trans (VK.app (flat3 (by first | exact trivial | exact (rfl : ([Value.int .i64 id] : List Value).all flat = true) | exact nmE_flat _ | exact eap ▸ nmE_flat _) (by first | exact trivial | exact (rfl : ([Value.int .i64 id] : List Value).all flat = true) | exact nmE_flat _ | exact eap ▸ nmE_flat _) (by first | exact trivial | exact (rfl : ([Value.int .i64 id] : List Value).all flat = true) | exact nmE_flat _ | exact eap ▸ nmE_flat _)))).trans hV'
            have k1 := Nat.lt_of_lt_of_le gtp kq.1
            have k2 := Nat.lt_of_lt_of_le gtv kq.1
            have k3 := Nat.lt_of_lt_of_le gtw kq.1
            have k4 := Nat.lt_of_lt_of_le gut kq.1
            have k5 := Nat.lt_of_lt_of_le ggt kq.1
            have k6 := Nat.lt_of_lt_of_le hlen kq.1
            have k7 := Heap.get_lt hg'
            have k0 : K.length < G'.length := by omega
            exact ⟨_, G', ⟨g', ⟨c', rfl⟩, hg', kq, kV, hgb', k7⟩, weakS_vk kV (by simp -dsimp -implicitDefEqProofs (disch := omega) [go_sem, -List.getD_eq_getElem?_getD, ite_yes, k0, k1, k2, k3, k4, k5, k6, k7])⟩
      · simp -dsimp -implicitDefEqProofs (disch := omega) [go_sem, -List.getD_eq_getElem?_getD, ite_yes, hlti, hlt, c1, hlen, hlen0, cnet, gut, hfa]
        refine AAt.of (by first | exact SubH.refl | exact SubH.app | exact (KQ.app.trans hQ').sub) ?_
        refine AAny.two 8 0 6 (by kernel_rfl) (by kernel_rfl) (by kernel_rfl) ?_ ?_
        · simp -dsimp -implicitDefEqProofs (disch := omega) [go_sem, -List.getD_eq_getElem?_getD, ite_yes, hlti, hlt, c1, hlen, hlen0, cnet, gut, hfa]
          refine AAt.of (by first | exact SubH.refl | exact SubH.app | exact (KQ.app.trans hQ').sub) ?_
          refine AAny.one1 7 6 ?_
          simp -dsimp -implicitDefEqProofs (disch := omega) [go_sem, -List.getD_eq_getElem?_getD, ite_yes, hlti, hlt, c1, hlen, hlen0, cnet, gut, hfa]
          first | refine ACall.of (l1Own_A a (by omega) d _ u gSu) ?_ | refine ACall.of (l1Own_A a (by omega) d _ u gSu.app) ?_
          simp -dsimp -implicitDefEqProofs (disch := omega) [go_sem, -List.getD_eq_getElem?_getD, ite_yes, hlti, hlt, c1, hlen, hlen0, cnet, gut, hfa]
          refine AAt.of (by first | exact SubH.refl | exact SubH.app | exact (KQ.app.trans hQ').sub) ?_
          refine AAny.one1 6 12 ?_
          simp -dsimp -implicitDefEqProofs (disch := omega) [go_sem, -List.getD_eq_getElem?_getD, ite_yes, hlti, hlt, c1, hlen, hlen0, cnet, gut, hfa]
          first | refine AAt.of (by first | exact SubH.refl | exact SubH.app | exact (KQ.app.trans hQ').sub) ?_ | (refine ⟨?_, AAt.of (by first | exact SubH.refl | exact SubH.app | exact (KQ.app.trans hQ').sub) ?_⟩; · omega)
          refine AAny.one1 5 13 ?_
          simp -dsimp -implicitDefEqProofs (disch := omega) [go_sem, -List.getD_eq_getElem?_getD, ite_yes, hlti, hlt, c1, hlen, hlen0, cnet, gut, hfa]
          refine ACall.via (rE h1 _ (G.length + 2) _ gP.app gS.app gC.app ((Heap.get_len_add _ _ 2).trans (by rw [eap]; rfl)) (by have := hQ.1; omega) (by have := hQ.1; simp; omega)) ?_
          rintro v G' ⟨g', c', rfl, hg', hV', hQ', hgb'⟩
          simp -dsimp -implicitDefEqProofs (disch := omega) [go_sem, -List.getD_eq_getElem?_getD, ite_yes, hlti, hlt, c1, hlen, hlen0, cnet, gut, hfa]
          refine AAt.of (by first | exact SubH.refl | exact SubH.app | exact (KQ.app.trans hQ').sub) ?_
          refine AAny.takes (fuel := 0) (by kernel_rfl) (by kernel_rfl) [14, 15, 16, 17, 18] (by kernel_rfl) (by kernel_rfl) ?_
          simp -dsimp -implicitDefEqProofs (disch := omega) [go_sem, -List.getD_eq_getElem?_getD, ite_yes, hlti, hlt, c1, hlen, hlen0, cnet, gut, hfa]
          refine AAny.done (by kernel_rfl) ?_
          simp -dsimp -implicitDefEqProofs (disch := omega) [go_sem, -List.getD_eq_getElem?_getD, ite_yes, hlti, hlt, c1, hlen, hlen0, cnet, gut, hfa]
          have kq := KQ.app.trans hQ'
          have kV := (hV.trans (VK.app (flat3 (by first | exact trivial | exact (rfl : ([Value.int .i64 id] : List Value).all flat = true) | exact nmE_flat _ | exact eap ▸ nmE_flat _) (by first | exact trivial | exact (rfl : ([Value.int .i64 id] : List Value).all flat = true) | exact nmE_flat _ | exact eap ▸ nmE_flat _) (by first | exact trivial | exact (rfl : ([Value.int .i64 id] : List Value).all flat = true) | exact nmE_flat _ | exact eap ▸ nmE_flat _)))).trans hV'
          have k1 := Nat.lt_of_lt_of_le gtp kq.1
          have k2 := Nat.lt_of_lt_of_le gtv kq.1
          have k3 := Nat.lt_of_lt_of_le gtw kq.1
          have k4 := Nat.lt_of_lt_of_le gut kq.1
          have k5 := Nat.lt_of_lt_of_le ggt kq.1
          have k6 := Nat.lt_of_lt_of_le hlen kq.1
          have k7 := Heap.get_lt hg'
          have k0 : K.length < G'.length := by omega
          exact ⟨_, G', ⟨g', ⟨c', rfl⟩, hg', kq, kV, hgb', k7⟩, weakS_vk kV (by simp -dsimp -implicitDefEqProofs (disch := omega) [go_sem, -List.getD_eq_getElem?_getD, ite_yes, k0, k1, k2, k3, k4, k5, k6, k7])⟩
        · simp -dsimp -implicitDefEqProofs (disch := omega) [go_sem, -List.getD_eq_getElem?_getD, ite_yes, hlti, hlt, c1, hlen, hlen0, cnet, gut, hfa]
          first | refine ACall.of (l1Own_A a (by omega) d _ u gSu) ?_ | refine ACall.of (l1Own_A a (by omega) d _ u gSu.app) ?_
          simp -dsimp -implicitDefEqProofs (disch := omega) [go_sem, -List.getD_eq_getElem?_getD, ite_yes, hlti, hlt, c1, hlen, hlen0, cnet, gut, hfa]
          refine AAt.of (by first | exact SubH.refl | exact SubH.app | exact (KQ.app.trans hQ').sub) ?_
          refine AAny.two 7 0 12 (by kernel_rfl) (by kernel_rfl) (by kernel_rfl) ?_ ?_
          · simp -dsimp -implicitDefEqProofs (disch := omega) [go_sem, -List.getD_eq_getElem?_getD, ite_yes, hlti, hlt, c1, hlen, hlen0, cnet, gut, hfa]
            refine AAt.of (by first | exact SubH.refl | exact SubH.app | exact (KQ.app.trans hQ').sub) ?_
            refine AAny.one1 6 12 ?_
            simp -dsimp -implicitDefEqProofs (disch := omega) [go_sem, -List.getD_eq_getElem?_getD, ite_yes, hlti, hlt, c1, hlen, hlen0, cnet, gut, hfa]
            first | refine AAt.of (by first | exact SubH.refl | exact SubH.app | exact (KQ.app.trans hQ').sub) ?_ | (refine ⟨?_, AAt.of (by first | exact SubH.refl | exact SubH.app | exact (KQ.app.trans hQ').sub) ?_⟩; · omega)
            refine AAny.one1 5 13 ?_
            simp -dsimp -implicitDefEqProofs (disch := omega) [go_sem, -List.getD_eq_getElem?_getD, ite_yes, hlti, hlt, c1, hlen, hlen0, cnet, gut, hfa]
            refine ACall.via (rE h1 _ (G.length + 2) _ gP.app gS.app gC.app ((Heap.get_len_add _ _ 2).trans (by rw [eap]; rfl)) (by have := hQ.1; omega) (by have := hQ.1; simp; omega)) ?_
            rintro v G' ⟨g', c', rfl, hg', hV', hQ', hgb'⟩
            simp -dsimp -implicitDefEqProofs (disch := omega) [go_sem, -List.getD_eq_getElem?_getD, ite_yes, hlti, hlt, c1, hlen, hlen0, cnet, gut, hfa]
            refine AAt.of (by first | exact SubH.refl | exact SubH.app | exact (KQ.app.trans hQ').sub) ?_
            refine AAny.takes (fuel := 0) (by kernel_rfl) (by kernel_rfl) [14, 15, 16, 17, 18] (by kernel_rfl) (by kernel_rfl) ?_
            simp -dsimp -implicitDefEqProofs (disch := omega) [go_sem, -List.getD_eq_getElem?_getD, ite_yes, hlti, hlt, c1, hlen, hlen0, cnet, gut, hfa]
            refine AAny.done (by kernel_rfl) ?_
            simp -dsimp -implicitDefEqProofs (disch := omega) [go_sem, -List.getD_eq_getElem?_getD, ite_yes, hlti, hlt, c1, hlen, hlen0, cnet, gut, hfa]
            have kq := KQ.app.trans hQ'
            have kV := (hV.trans (VK.app (flat3 (by first | exact trivial | exact (rfl : ([Value.int .i64 id] : List Value).all flat = true) | exact nmE_flat _ | exact eap ▸ nmE_flat _) (by first | exact trivial | exact (rfl : ([Value.int .i64 id] : List Value).all flat = true) | exact nmE_flat _ | exact eap ▸ nmE_flat _) (by first | exact trivial | exact (rfl : ([Value.int .i64 id] : List Value).all flat = true) | exact nmE_flat _ | exact eap ▸ nmE_flat _)))).trans hV'
            have k1 := Nat.lt_of_lt_of_le gtp kq.1
            have k2 := Nat.lt_of_lt_of_le gtv kq.1
            have k3 := Nat.lt_of_lt_of_le gtw kq.1
            have k4 := Nat.lt_of_lt_of_le gut kq.1
            have k5 := Nat.lt_of_lt_of_le ggt kq.1
            have k6 := Nat.lt_of_lt_of_le hlen kq.1
            have k7 := Heap.get_lt hg'
            have k0 : K.length < G'.length := by omega
            exact ⟨_, G', ⟨g', ⟨c', rfl⟩, hg', kq, kV, hgb', k7⟩, weakS_vk kV (by simp -dsimp -implicitDefEqProofs (disch := omega) [go_sem, -List.getD_eq_getElem?_getD, ite_yes, k0, k1, k2, k3, k4, k5, k6, k7])⟩
          · simp -dsimp -implicitDefEqProofs (disch := omega) [go_sem, -List.getD_eq_getElem?_getD, ite_yes, hlti, hlt, c1, hlen, hlen0, cnet, gut, hfa]
            first | refine AAt.of (by first | exact SubH.refl | exact SubH.app | exact (KQ.app.trans hQ').sub) ?_ | (refine ⟨?_, AAt.of (by first | exact SubH.refl | exact SubH.app | exact (KQ.app.trans hQ').sub) ?_⟩; · omega)
            refine AAny.one1 6 0 ?_
            simp -dsimp -implicitDefEqProofs (disch := omega) [go_sem, -List.getD_eq_getElem?_getD, ite_yes, hlti, hlt, c1, hlen, hlen0, cnet, gut, hfa]
            refine AAt.of (by first | exact SubH.refl | exact SubH.app | exact (KQ.app.trans hQ').sub) ?_
            refine AAny.one1 5 13 ?_
            simp -dsimp -implicitDefEqProofs (disch := omega) [go_sem, -List.getD_eq_getElem?_getD, ite_yes, hlti, hlt, c1, hlen, hlen0, cnet, gut, hfa]
            refine ACall.via (rE h1 _ (G.length + 2) _ gP.app gS.app gC.app ((Heap.get_len_add _ _ 2).trans (by rw [eap]; rfl)) (by have := hQ.1; omega) (by have := hQ.1; simp; omega)) ?_
            rintro v G' ⟨g', c', rfl, hg', hV', hQ', hgb'⟩
            simp -dsimp -implicitDefEqProofs (disch := omega) [go_sem, -List.getD_eq_getElem?_getD, ite_yes, hlti, hlt, c1, hlen, hlen0, cnet, gut, hfa]
            refine AAt.of (by first | exact SubH.refl | exact SubH.app | exact (KQ.app.trans hQ').sub) ?_
            refine AAny.takes (fuel := 0) (by kernel_rfl) (by kernel_rfl) [14, 15, 16, 17, 18] (by kernel_rfl) (by kernel_rfl) ?_
            simp -dsimp -implicitDefEqProofs (disch := omega) [go_sem, -List.getD_eq_getElem?_getD, ite_yes, hlti, hlt, c1, hlen, hlen0, cnet, gut, hfa]
            refine AAny.done (by kernel_rfl) ?_
            simp -dsimp -implicitDefEqProofs (disch := omega) [go_sem, -List.getD_eq_getElem?_getD, ite_yes, hlti, hlt, c1, hlen, hlen0, cnet, gut, hfa]
            have kq := KQ.app.trans hQ'
            have kV := (hV.trans (VK.app (flat3 (by first | exact trivial | exact (rfl : ([Value.int .i64 id] : List Value).all flat = true) | exact nmE_flat _ | exact eap ▸ nmE_flat _) (by first | exact trivial | exact (rfl : ([Value.int .i64 id] : List Value).all flat = true) | exact nmE_flat _ | exact eap ▸ nmE_flat _) (by first | exact trivial | exact (rfl : ([Value.int .i64 id] : List Value).all flat = true) | exact nmE_flat _ | exact eap ▸ nmE_flat _)))).trans hV'
            have k1 := Nat.lt_of_lt_of_le gtp kq.1
            have k2 := Nat.lt_of_lt_of_le gtv kq.1
            have k3 := Nat.lt_of_lt_of_le gtw kq.1
            have k4 := Nat.lt_of_lt_of_le gut kq.1
            have k5 := Nat.lt_of_lt_of_le ggt kq.1
            have k6 := Nat.lt_of_lt_of_le hlen kq.1
            have k7 := Heap.get_lt hg'
            have k0 : K.length < G'.length := by omega
            exact ⟨_, G', ⟨g', ⟨c', rfl⟩, hg', kq, kV, hgb', k7⟩, weakS_vk kV (by simp -dsimp -implicitDefEqProofs (disch := omega) [go_sem, -List.getD_eq_getElem?_getD, ite_yes, k0, k1, k2, k3, k4, k5, k6, k7])⟩
    rintro fr1 G' ⟨g', c', rfl, hg', kq, kV, hgb', k7⟩
    have k1 := Nat.lt_of_lt_of_le gtp kq.1
    have k2 := Nat.lt_of_lt_of_le gtv kq.1
    have k3 := Nat.lt_of_lt_of_le gtw kq.1
    have k4 := Nat.lt_of_lt_of_le gut kq.1
    have k5 := Nat.lt_of_lt_of_le ggt kq.1
    have k6 := Nat.lt_of_lt_of_le hlen kq.1
    have k0 : K.length < G'.length := by omega
    by_cases h3 : 0 ≤ r.2
    rotate_left
    · rw [if_neg (fun h => h3 h.1)] at e
      simp -dsimp -implicitDefEqProofs (disch := omega) [go_sem, -List.getD_eq_getElem?_getD, ite_yes, h3]
      exact LoopEnd.of (k + 1, g, c, G') ⟨by omega, kV, hQ.trans kq, kq.cells (by omega) cnet, kq.sl cids, k6, hgb, by rw [e]; exact kq.get hgg⟩ (by omega) (weakS_vk kV (by simp -dsimp -implicitDefEqProofs (disch := omega) [go_sem, -List.getD_eq_getElem?_getD, ite_yes, k0, k1, k2, k3, k4, k5, k6, k7, e]))
    by_cases h4 : R.2 < 0
    · rw [if_pos ⟨h3, .inl h4⟩] at e
      simp -dsimp -implicitDefEqProofs (disch := omega) [go_sem, -List.getD_eq_getElem?_getD, ite_yes, h3, h4]
      exact LoopEnd.of (k + 1, g', c', G') ⟨by omega, kV, hQ.trans kq, kq.cells (by omega) cnet, kq.sl cids, k6, hgb', by rw [e]; exact hg'⟩ (by omega) (weakS_vk kV (by simp -dsimp -implicitDefEqProofs (disch := omega) [go_sem, -List.getD_eq_getElem?_getD, ite_yes, k0, k1, k2, k3, k4, k5, k6, k7, e]))
    by_cases h5 : r.2 < R.2
    · rw [if_pos ⟨h3, .inr h5⟩] at e
      simp -dsimp -implicitDefEqProofs (disch := omega) [go_sem, -List.getD_eq_getElem?_getD, ite_yes, h3, h4, h5]
      exact LoopEnd.of (k + 1, g', c', G') ⟨by omega, kV, hQ.trans kq, kq.cells (by omega) cnet, kq.sl cids, k6, hgb', by rw [e]; exact hg'⟩ (by omega) (weakS_vk kV (by simp -dsimp -implicitDefEqProofs (disch := omega) [go_sem, -List.getD_eq_getElem?_getD, ite_yes, k0, k1, k2, k3, k4, k5, k6, k7, e]))
    · rw [if_neg (fun h => h.2.elim h4 h5)] at e
      simp -dsimp -implicitDefEqProofs (disch := omega) [go_sem, -List.getD_eq_getElem?_getD, ite_yes, h3, h4, h5]
      exact LoopEnd.of (k + 1, g, c, G') ⟨by omega, kV, hQ.trans kq, kq.cells (by omega) cnet, kq.sl cids, k6, hgb, by rw [e]; exact kq.get hgg⟩ (by omega) (weakS_vk kV (by simp -dsimp -implicitDefEqProofs (disch := omega) [go_sem, -List.getD_eq_getElem?_getD, ite_yes, k0, k1, k2, k3, k4, k5, k6, k7, e]))
end Go.Proofs.YtncblopbcnkinaaGreat
/- BestOrder and QuickestOrder: both sides. -/
namespace Go.Proofs.YtncblopbcnkinaaGreat
open Go.Am
set_option linter.unusedVariables false
set_option linter.unusedSimpArgs false
set_option maxRecDepth 100000
set_option maxHeartbeats 4000000

theorem bestOrder_A (n : Int) (ps : List Pp) (cp : Nat) (l : List Vl) (cv : Nat) (src : Int) (cu : List Int) (cw : Nat) (hq : askR n ps l src = true) (hcu : custOk n cu = true) (gch : Nat) (capc : Array Value) (ch : List Int → Bool) (Pre : Heap → Prop) (H : Heap) (tp tv tw : Nat) (hP : Sl ppE H tp ps) (hS : Sl vlE H tv l) (hC : Sl nmE H tw cu)
    (hcc : L2 (WMP (sg H.length []) H.length) capc.toList capc.toList) (hpre0 : ∀ L, Pre (H ++ L)) (hpre : ∀ a b K G, H.length ≤ a → H.length ≤ b → Pre K → Kp a b K G → Pre G)
    (hch : ∀ G, Pre G → ∀ (a : List Int) (u d : Nat), Sl nmE G u a → ordB l a = true → AFunC Tryz.prog gch (.slice (some ⟨u, 0, none⟩) a.length d :: capc.toList) G (.bool (ch a)) G) :
    AFunC Tryz.prog 27 [netV n tp ps.length cp, .slice (some ⟨tv, 0, none⟩) l.length cv, .int .i64 src, .slice (some ⟨tw, 0, none⟩) cu.length cw, .func (.func gch) #[] capc] H
      (.tuple #[.slice (some ⟨H.length, 0, none⟩) (visN (shutL l) ch (fun a => waitN n ps l src a cu) 7 [] ([], -1)).1.length 0, .int .i64 (visN (shutL l) ch (fun a => waitN n ps l src a cu) 7 [] ([], -1)).2])
      (H ++ [some ⟨(visN (shutL l) ch (fun a => waitN n ps l src a cu) 7 [] ([], -1)).1.flatMap nmE, true, 3, 1⟩]) := by
  refine AFunC.of_body Tryz.func27 (by kernel_rfl) rfl (by kernel_rfl) (by simp [Tryz.ntmps27]) ?_
  have htp := hP.lt
  have htv := hS.lt
  have htw := hC.lt
  obtain ⟨hgv, hN, hl10, hsrc, hs6⟩ := askR_at hq
  simp -dsimp -implicitDefEqProofs (disch := omega) [go_sem, -List.getD_eq_getElem?_getD, ite_yes, htp, htv, htw]
  refine ACall.of (shutIds_A l (by omega) cv _ tv hS.app) ?_
  simp -dsimp -implicitDefEqProofs (disch := omega) [go_sem, -List.getD_eq_getElem?_getD, ite_yes, htp, htv, htw]
  have V := fun K hE hC hu => visit_R n ps l src cu hq hcu ⟨H.length + 6, H.length + 10, H.length + 4, H.length, H.length + 1, H.length + 2, H.length + 3, H.length + 9, H.length + 8, H.length + 5, tp, tv, tw, cp, cv, cw, gch, capc⟩ (by
      refine ⟨by simp, ?_⟩
      simp only [List.mem_cons, List.not_mem_nil, or_false, forall_eq_or_imp, forall_eq]
      refine ⟨?_, ?_, ?_, ?_, ?_, ?_, ?_, ?_, ?_, ?_, ?_⟩ <;> constructor <;> omega) Pre (fun K G => hpre _ _ K G (by simp) (by simp)) ch hch H.length 7 [] ([], -1) 0 (H.length + 11) K (GoodA.nil _) (by simp; omega) hE hC hu (by simp) (by simp) (by omega)
  simp only [VT.caps] at V
  refine ACall.via (V _ ⟨by simp -dsimp -implicitDefEqProofs (disch := omega) [go_sem, -List.getD_eq_getElem?_getD, ite_yes], by simp -dsimp -implicitDefEqProofs (disch := omega) [go_sem, -List.getD_eq_getElem?_getD, ite_yes, VT.caps], by simp -dsimp -implicitDefEqProofs (disch := omega) [go_sem, -List.getD_eq_getElem?_getD, ite_yes], by simp -dsimp -implicitDefEqProofs (disch := omega) [go_sem, -List.getD_eq_getElem?_getD, ite_yes], by simp -dsimp -implicitDefEqProofs (disch := omega) [go_sem, -List.getD_eq_getElem?_getD, ite_yes], by simp -dsimp -implicitDefEqProofs (disch := omega) [go_sem, -List.getD_eq_getElem?_getD, ite_yes], by simp -dsimp -implicitDefEqProofs (disch := omega) [go_sem, -List.getD_eq_getElem?_getD, ite_yes], Sl.nth 5 rfl rfl, hP.app, hS.app, hC.app, by simp, by simp, by simp, by simp, by simp, by simp, by simp, by simp, by simp, hcc.mono fun x y => wmp_mono (by simp), hpre0 _⟩ ⟨(Heap.get_len_add _ _ 9).trans rfl, H.length + 7, 0, (Heap.get_len_add _ _ 8).trans rfl, (Heap.get_len_add _ _ 7).trans rfl, by simp, by simp, by omega⟩ ((Heap.get_len_add _ _ 11).trans rfl) (by simp)) ?_
  rintro v G ⟨rfl, hE, hC', hV, hKp⟩
  generalize visN (shutL l) ch (fun a => waitN n ps l src a cu) 7 [] ([], -1) = r at *
  have c8 := hC'.c8
  obtain ⟨g, cb, c9, hg, _, _, hgb⟩ := hC'.c9
  have l8 := hE.l8
  have l9 := hE.l9
  simp only at c8 c9 l8 l9
  have q8 : aCells G ⟨H.length + 9, 0, none⟩ 1 = some [.int .i64 r.2] := by rw [aCells_eq, c8]; rfl
  have q9 : aCells G ⟨H.length + 8, 0, none⟩ 1 = some [.slice (some ⟨g, 0, none⟩) r.1.length cb] := by rw [aCells_eq, c9]; rfl
  simp -dsimp -implicitDefEqProofs (disch := omega) [go_sem, -List.getD_eq_getElem?_getD, ite_yes]
  refine ADraw.quiet (by kernel_rfl) (by kernel_rfl) (by kernel_rfl) ?_
  simp -dsimp -implicitDefEqProofs (disch := omega) [go_sem, -List.getD_eq_getElem?_getD, ite_yes, q8, q9, l8, l9]
  exact fin_pick (fun t ht => (hKp.2 t (by simp; omega) (by show t ≠ H.length + 9; omega) (by show t ≠ H.length + 8; omega)).trans (Heap.get_append_left ht)) hg hgb (nmE_flat _)
theorem gtlN_snoc (ps : List Pp) (l : List Vl) (src : Int) (a : List Int) (x : Int) : gtlN ps l src (a ++ [x]) = (gtlN ps l src a && gtOf true ps l src a x) := by
  have e1 : ∀ i, i < a.length → gtlB ps l src (a ++ [x]) i = gtlB ps l src a i := fun i hi => by
    unfold gtlB
    rw [List.take_append_of_le_length (by omega), List.getD_eq_getElem?_getD, List.getElem?_append_left hi, ← List.getD_eq_getElem?_getD]
  have e2 : gtlB ps l src (a ++ [x]) a.length = gtOf true ps l src a x := by
    unfold gtlB gtOf
    rw [List.take_left, List.getD_eq_getElem?_getD, List.getElem?_append_right (Nat.le_refl _), Nat.sub_self]; rfl
  cases h1 : gtlN ps l src a
  · obtain ⟨i, hi, h2⟩ : ∃ i, i < a.length ∧ gtlB ps l src a i = false := by
      apply Classical.byContradiction
      intro hc
      have : gtlTo ps l src a a.length := fun i hi => by
        cases h : gtlB ps l src a i
        · exact absurd ⟨i, hi, h⟩ hc
        · rfl
      have h3 := of_decide_eq_false h1
      exact h3 this
    rw [Bool.false_and]
    exact gtlN_no (k := i) (by simp; omega) (by rw [e1 i hi]; exact h2)
  · have h2 := of_decide_eq_true h1
    rw [Bool.true_and]
    cases h3 : gtOf true ps l src a x
    · exact gtlN_no (k := a.length) (by simp) (by rw [e2]; exact h3)
    · refine decide_eq_true fun i hi => ?_
      rw [List.length_append, List.length_singleton] at hi
      rcases Nat.lt_or_ge i a.length with h | h
      · rw [e1 i h]; exact h2 i h
      · rw [show i = a.length by omega, e2]; exact h3
theorem waitTo_left (n : Int) (ps : List Pp) (l : List Vl) (src : Int) (a : List Int) (x : Int) (cu : List Int) : ∀ k, k ≤ a.length → waitTo n ps l src (a ++ [x]) cu k = waitTo n ps l src a cu k
  | 0, _ => rfl
  | k + 1, hk => by rw [waitTo, waitTo, waitTo_left n ps l src a x cu k (by omega), List.take_append_of_le_length (by omega)]
theorem waitN_snoc (n : Int) (ps : List Pp) (l : List Vl) (src : Int) (a : List Int) (x : Int) (cu : List Int) : waitN n ps l src (a ++ [x]) cu = waitN n ps l src a cu + stepN n ps l src a cu := by
  unfold waitN
  rw [List.length_append, List.length_singleton, waitTo, waitTo_left n ps l src a x cu _ (Nat.le_refl _), List.take_left]
/-- what is best -/
def bestR (n : Int) (ps : List Pp) (l : List Vl) (src : Int) (cu : List Int) (gt : Bool) : Bst := bestN (shutL l) (gtOf gt ps l src) (fun a => stepN n ps l src a cu) 7 []
theorem vis_bestR {n : Int} {ps : List Pp} {l : List Vl} {src : Int} {cu : List Int} (hq : askR n ps l src = true) (hcu : custOk n cu = true) (gt : Bool) (ch : List Int → Bool) (h0 : ch [] = true) (hch : ∀ a x, ch (a ++ [x]) = (ch a && gtOf gt ps l src a x)) :
    visN (shutL l) ch (fun a => waitN n ps l src a cu) 7 [] ([], -1) = bestR n ps l src cu gt := by
  obtain ⟨hgv, hN, hl10, hsrc, hs6⟩ := askR_at hq
  have hcr := (custOk_at hcu).2
  have hs := fun a => (stepN_rng hN.f_n (ps := ps) (l := l) (src := src) (ids := a) hcr).1
  rw [vis_best (wt := fun a => waitN n ps l src a cu) (g := gtOf gt ps l src) (stp := fun a => stepN n ps l src a cu) hch hs (fun a => (waitTo_rng hN.f_n hcr _).1) (fun a x => waitN_snoc n ps l src a x cu) 7 [] ([], -1) (GoodA.nil _) (by simp; omega) h0]
  show comb 0 (bestR n ps l src cu gt) ([], -1) = _
  by_cases h : (bestR n ps l src cu gt).2 < 0
  · rw [comb_neg h]; exact (bestN_neg hs _ _ h).symm
  · rw [comb_yes (by omega) (.inl (by simp)), Int.zero_add]
theorem bestTo_len {rec : List Int → Bst} {g : List Int → Int → Bool} {ids a : List Int} {B : Nat} (h : ∀ b, (rec b).1.length ≤ B) : ∀ k, (bestTo rec g ids a k).1.length ≤ B
  | 0 => by simp [bestTo]
  | k + 1 => by
    have ih := bestTo_len (g := g) (ids := ids) (a := a) h k
    rw [bestTo]
    split
    · exact ih
    · split
      · exact h _
      · exact ih
theorem bestN_len {ids : List Int} {g : List Int → Int → Bool} {stp : List Int → Int} : ∀ (f : Nat) (a : List Int), (bestN ids g stp f a).1.length ≤ ids.length
  | 0, a => by simp [bestN]
  | f + 1, a => by
    rw [bestN]
    split
    · rename_i h; simp only; omega
    · unfold bestEnd
      split
      · exact bestTo_len (bestN_len f) _
      · exact bestTo_len (rec := bestN ids g stp f) (bestN_len f) _
theorem bestR_small {n : Int} {ps : List Pp} {l : List Vl} {src : Int} (hq : askR n ps l src = true) (cu : List Int) (gt : Bool) : (bestR n ps l src cu gt).1.length ≤ 1048577 := by
  have := bestN_len (ids := shutL l) (g := gtOf gt ps l src) (stp := fun a => stepN n ps l src a cu) 7 []
  have := (askR_at hq).2.2.2.2
  unfold bestR
  omega
end Go.Proofs.YtncblopbcnkinaaGreat
/- Nodes that become wet, plain. -/
namespace Go.Proofs.YtncblopbcnkinaaGreat
open Go.Am
set_option linter.unusedVariables false
/-- the first k nodes that are wet in S and not in R -/
def nwTo (R S : List Bool) : Nat → List Int
  | 0 => []
  | k + 1 => if (S.getD (k + 1) false && !R.getD (k + 1) false) = true then nwTo R S k ++ [((k + 1 : Nat) : Int)] else nwTo R S k
theorem nwTo_length (R S : List Bool) : ∀ k, (nwTo R S k).length ≤ k
  | 0 => by simp [nwTo]
  | k + 1 => by
    have := nwTo_length R S k
    rw [nwTo]
    split
    · rw [List.length_append, List.length_singleton]; omega
    · omega
/-- those of the first k of a list that are none of another -/
def spTo (D E : List Int) : Nat → List Int
  | 0 => []
  | k + 1 => if hasI E (D.getD k 0) = true then spTo D E k else spTo D E k ++ [D.getD k 0]
theorem spTo_length (D E : List Int) : ∀ k, (spTo D E k).length ≤ k
  | 0 => by simp [spTo]
  | k + 1 => by
    have := spTo_length D E k
    rw [spTo]
    split
    · omega
    · rw [List.length_append, List.length_singleton]; omega
theorem spTo_left (D F E : List Int) : ∀ k, k ≤ D.length → spTo (D ++ F) E k = spTo D E k
  | 0, _ => rfl
  | k + 1, h => by
    have g : (D ++ F).getD k 0 = D.getD k 0 := by
      rw [List.getD_eq_getElem?_getD, List.getD_eq_getElem?_getD, List.getElem?_append_left (by omega)]
    rw [spTo, spTo, g, spTo_left D F E k (by omega)]
/-- the reference's way is the program's -/
theorem spTo_eq (R S : List Bool) (n : Nat) : ∀ k, k ≤ n → spTo (dryN R k) (dryN S n) (dryN R k).length = nwTo R S k
  | 0, _ => rfl
  | k + 1, h => by
    have ih := spTo_eq R S n k (by omega)
    have hs := has_dryN (R := S) (j := k + 1) (k := n) (by omega) h
    rw [nwTo]
    cases hr : R.getD (k + 1) false
    · have e : dryN R (k + 1) = dryN R k ++ [((k + 1 : Nat) : Int)] := by
        rw [dryN, hr]; rfl
      rw [e, List.length_append, List.length_singleton, spTo, spTo_left _ _ _ _ (Nat.le_refl _), ih]
      have g : (dryN R k ++ [((k + 1 : Nat) : Int)]).getD (dryN R k).length 0 = ((k + 1 : Nat) : Int) := by
        rw [List.getD_eq_getElem?_getD, List.getElem?_append_right (Nat.le_refl _), Nat.sub_self]; rfl
      rw [g, hs]
      cases S.getD (k + 1) false <;> simp
    · have e : dryN R (k + 1) = dryN R k := by rw [dryN, hr]; rfl
      rw [e, ih]
      simp
/-- the nodes that become wet with the valve k of an order -/
noncomputable def nwF (n : Int) (ps : List Pp) (l : List Vl) (src : Int) (a : List Int) (k : Nat) : List Int := nwTo (wetR ps (opL l (a.take k)) src) (wetR ps (opL l (a.take (k + 1))) src) n.toNat
noncomputable def nwL (n : Int) (ps : List Pp) (l : List Vl) (src : Int) (a : List Int) : Nat → List (List Int)
  | 0 => []
  | k + 1 => nwL n ps l src a k ++ [nwF n ps l src a k]
theorem nwL_length (n : Int) (ps : List Pp) (l : List Vl) (src : Int) (a : List Int) : ∀ k, (nwL n ps l src a k).length = k
  | 0 => rfl
  | k + 1 => by rw [nwL, List.length_append, List.length_singleton, nwL_length n ps l src a k]
theorem nwL_mem {n : Int} {ps : List Pp} {l : List Vl} {src : Int} {a : List Int} {x : List Int} : ∀ {k}, x ∈ nwL n ps l src a k → ∃ i, i < k ∧ x = nwF n ps l src a i
  | 0, h => by cases h
  | k + 1, h => by
    rw [nwL] at h
    rcases List.mem_append.1 h with h | h
    · obtain ⟨i, hi, e⟩ := nwL_mem h
      exact ⟨i, by omega, e⟩
    · rw [List.mem_singleton] at h
      exact ⟨k, by omega, h⟩
theorem nwL_small {n : Int} (hn : 1 ≤ n ∧ n ≤ 8) {ps : List Pp} {l : List Vl} {src : Int} {a : List Int} {k : Nat} {x : List Int} (h : x ∈ nwL n ps l src a k) : x.length ≤ 8 := by
  obtain ⟨i, _, rfl⟩ := nwL_mem h
  have := nwTo_length (wetR ps (opL l (a.take i)) src) (wetR ps (opL l (a.take (i + 1))) src) n.toNat
  unfold nwF
  omega
end Go.Proofs.YtncblopbcnkinaaGreat
/- StillDry: the law. -/
namespace Go.Proofs.YtncblopbcnkinaaGreat
open Go.Am
set_option linter.unusedVariables false
set_option linter.unusedSimpArgs false
set_option maxRecDepth 100000
set_option maxHeartbeats 4000000

theorem dryO_small {n : Int} {ps : List Pp} (h : NetAt n ps) (l : List Vl) (src : Int) (ids : List Int) : (dryO n ps l src ids).length ≤ 1048577 := by
  have := dryO_length n ps l src ids
  have := h.f_n
  omega
end Go.Proofs.YtncblopbcnkinaaGreat
/- UsefulValves: both sides, and the law. -/
namespace Go.Proofs.YtncblopbcnkinaaGreat
open Go.Am
set_option linter.unusedVariables false
set_option linter.unusedSimpArgs false
set_option maxRecDepth 100000
set_option maxHeartbeats 4000000

theorem opL_nil (l : List Vl) : opL l [] = l := by
  refine List.ext_getElem (opL_length l []) fun i h1 h2 => ?_
  have := opL_getD l [] h2
  rw [List.getD_eq_getElem?_getD, List.getElem?_eq_getElem h1, List.getD_eq_getElem?_getD, List.getElem?_eq_getElem h2] at this
  simpa [opV, hasI] using this
theorem dryO_nil (n : Int) (ps : List Pp) (l : List Vl) (src : Int) : dryN (wetR ps l src) n.toNat = dryO n ps l src [] := by rw [dryO, opL_nil]
/-- the first k shut valves that are useful -/
def useTo (n : Int) (ps : List Pp) (l : List Vl) (src : Int) : Nat → List Int
  | 0 => []
  | k + 1 => if (dryO n ps l src [(shutL l).getD k 0]).length < (dryO n ps l src []).length then useTo n ps l src k ++ [(shutL l).getD k 0] else useTo n ps l src k
theorem useTo_length (n : Int) (ps : List Pp) (l : List Vl) (src : Int) : ∀ k, (useTo n ps l src k).length ≤ k
  | 0 => Nat.le_refl _
  | k + 1 => by have := useTo_length n ps l src k; rw [useTo]; split <;> simp <;> omega
def useL (n : Int) (ps : List Pp) (l : List Vl) (src : Int) : List Int := useTo n ps l src (shutL l).length
theorem useL_small {n : Int} {ps : List Pp} (l : List Vl) (src : Int) (h : (shutL l).length ≤ 6) : (useL n ps l src).length ≤ 1048577 := by
  have := useTo_length n ps l src (shutL l).length
  unfold useL
  omega
end Go.Proofs.YtncblopbcnkinaaGreat
/- More open valves, more that is wet: plain. -/
namespace Go.Proofs.YtncblopbcnkinaaGreat
open Go.Am
set_option linter.unusedVariables false
set_option linter.unusedSimpArgs false
/-- an end that is open has the same on both sides -/
def Closed (op : Pp → Int → Bool) (ps : List Pp) (R : List Bool) : Prop := ∀ i, i < ps.length → ∀ k, k < 2 → op (ps.getD i pp0) (endOfP (ps.getD i pp0) k) = true → R.getD (endOfP (ps.getD i pp0) k).toNat false = R.getD (9 + i) false
def Sub (R S : List Bool) : Prop := ∀ j, R.getD j false = true → S.getD j false = true
theorem Sub.trans {R S T : List Bool} (h : Sub R S) (k : Sub S T) : Sub R T := fun j hj => k j (h j hj)
theorem set_sub {s R : List Bool} {a : Nat} (h : Sub s R) (ha : R.getD a false = true) : Sub (s.set a true) R := fun j hj => by
  by_cases e : a = j
  · subst e; exact ha
  · rw [getD_set_ne e] at hj; exact h j hj
theorem sub_set {s : List Bool} {a : Nat} : Sub s (s.set a true) := fun j hj => by
  by_cases e : a = j
  · subst e
    have hlt : a < s.length := by
      rcases Nat.lt_or_ge a s.length with h | h
      · exact h
      · rw [List.getD_eq_getElem?_getD, List.getElem?_eq_none h] at hj; cases hj
    exact getD_set_eq hlt true
  · rw [getD_set_ne e]; exact hj
theorem stepAt_false {o : Bool} {s : St} {a b : Nat} (h : (stepAt o s a b).2 = false) : stepAt o s a b = s ∧ (o = true → s.1.getD a false = s.1.getD b false) := by
  unfold stepAt at h ⊢
  split at h
  · cases h
  · rename_i hc
    rw [if_neg hc]
    refine ⟨rfl, fun ho => ?_⟩
    rw [ho, Bool.and_true] at hc
    simpa using hc
theorem inP_false {op : Pp → Int → Bool} {s : St} {i : Nat} {p : Pp} : ∀ k, (inP op s i p k).2 = false → inP op s i p k = s ∧ ∀ j, j < k → op p (endOfP p j) = true → s.1.getD (endOfP p j).toNat false = s.1.getD (9 + i) false
  | 0, _ => ⟨rfl, fun j hj => absurd hj (Nat.not_lt_zero _)⟩
  | k + 1, h => by
    obtain ⟨h1, h2⟩ := stepAt_false (s := inP op s i p k) h
    have h3 : inP op s i p (k + 1) = inP op s i p k := h1
    rw [h3] at h
    obtain ⟨h4, h5⟩ := inP_false k h
    refine ⟨h3.trans h4, fun j hj ho => ?_⟩
    rcases Nat.lt_or_ge j k with hlt | hge
    · exact h5 j hlt ho
    · obtain rfl : j = k := by omega
      rw [h4] at h2
      exact h2 ho
theorem psTo_false {op : Pp → Int → Bool} {ps : List Pp} {W : List Bool} : ∀ k, (psTo op ps W k).2 = false → psTo op ps W k = (W, false) ∧ ∀ i, i < k → ∀ j, j < 2 → op (ps.getD i pp0) (endOfP (ps.getD i pp0) j) = true → W.getD (endOfP (ps.getD i pp0) j).toNat false = W.getD (9 + i) false
  | 0, _ => ⟨rfl, fun j hj => absurd hj (Nat.not_lt_zero _)⟩
  | k + 1, h => by
    obtain ⟨h1, h2⟩ := inP_false (s := psTo op ps W k) 2 h
    have h3 : psTo op ps W (k + 1) = psTo op ps W k := h1
    rw [h3] at h
    obtain ⟨h4, h5⟩ := psTo_false k h
    refine ⟨h3.trans h4, fun i hi => ?_⟩
    rcases Nat.lt_or_ge i k with hlt | hge
    · exact h5 i hlt
    · obtain rfl : i = k := by omega
      rw [h4] at h2
      exact h2
theorem spr_closed {op : Pp → Int → Bool} {ps : List Pp} {W R : List Bool} (h : Spr op ps W R) : Closed op ps R := by
  induction h with
  | done h =>
    obtain ⟨h1, h2⟩ := psTo_false ps.length h
    have : (pass op ps _).1 = _ := congrArg Prod.fst h1
    rw [this]
    exact h2
  | more h k ih => exact ih
theorem stepAt_sub {o : Bool} {s : St} {a b : Nat} {R : List Bool} (h : Sub s.1 R) (ho : o = true → R.getD a false = R.getD b false) : Sub (stepAt o s a b).1 R := by
  unfold stepAt
  split
  · rename_i hc
    simp only [Bool.and_eq_true, bne_iff_ne] at hc
    have hab := ho hc.2
    have : R.getD a false = true ∧ R.getD b false = true := by
      cases h1 : s.1.getD a false
      · have : s.1.getD b false = true := by
          cases h2 : s.1.getD b false
          · exact absurd (h1.trans h2.symm) hc.1
          · rfl
        have := h _ this
        exact ⟨hab.trans this, this⟩
      · have := h _ h1
        exact ⟨this, hab.symm.trans this⟩
    exact set_sub (set_sub h this.1) this.2
  · exact h
theorem sub_stepAt {o : Bool} {s : St} {a b : Nat} : Sub s.1 (stepAt o s a b).1 := by
  unfold stepAt
  split
  · exact sub_set.trans sub_set
  · exact fun _ h => h
theorem inP_sub {op op' : Pp → Int → Bool} {s : St} {i : Nat} {p : Pp} {R : List Bool} (h : Sub s.1 R) (hR : ∀ j, j < 2 → op p (endOfP p j) = true → R.getD (endOfP p j).toNat false = R.getD (9 + i) false) : ∀ k, k ≤ 2 → Sub (inP op s i p k).1 R
  | 0, _ => h
  | k + 1, hk => stepAt_sub (inP_sub (op' := op') h hR k (by omega)) (hR k (by omega))
theorem sub_inP {op : Pp → Int → Bool} {s : St} {i : Nat} {p : Pp} : ∀ k, Sub s.1 (inP op s i p k).1
  | 0 => fun _ h => h
  | k + 1 => (sub_inP k).trans sub_stepAt
theorem psTo_sub {op op' : Pp → Int → Bool} {ps : List Pp} {W R : List Bool} (h : Sub W R) (hR : Closed op' ps R) (hop : ∀ p nd, op p nd = true → op' p nd = true) : ∀ k, k ≤ ps.length → Sub (psTo op ps W k).1 R
  | 0, _ => h
  | k + 1, hk => inP_sub (op' := op') (psTo_sub h hR hop k (by omega)) (fun j hj ho => hR k (by omega) j hj (hop _ _ ho)) 2 (Nat.le_refl _)
theorem sub_psTo {op : Pp → Int → Bool} {ps : List Pp} {W : List Bool} : ∀ k, Sub W (psTo op ps W k).1
  | 0 => fun _ h => h
  | k + 1 => (sub_psTo k).trans (sub_inP 2)
theorem spr_sub {op op' : Pp → Int → Bool} {ps : List Pp} {W S R : List Bool} (h : Spr op ps W S) (hR : Closed op' ps R) (hop : ∀ p nd, op p nd = true → op' p nd = true) (hW : Sub W R) : Sub S R := by
  induction h with
  | done h => exact psTo_sub hW hR hop _ (Nat.le_refl _)
  | more h k ih => exact ih (psTo_sub hW hR hop _ (Nat.le_refl _))
theorem sub_spr {op : Pp → Int → Bool} {ps : List Pp} {W R : List Bool} (h : Spr op ps W R) : Sub W R := by
  induction h with
  | done h => exact sub_psTo _
  | more h k ih => exact (sub_psTo _).trans ih
theorem reach_mono {n : Int} {ps : List Pp} (h : NetAt n ps) {op op' : Pp → Int → Bool} (hop : ∀ p nd, op p nd = true → op' p nd = true) (src : Int) : Sub (reach op ps src) (reach op' ps src) :=
  spr_sub (spr_reach h op src) (spr_closed (spr_reach h op' src)) hop (sub_spr (spr_reach h op' src))
theorem openB_mono {l : List Vl} {a b : List Int} (h : ∀ x, hasI a x = true → hasI b x = true) (p : Pp) (nd : Int) (ho : openB (opL l a) p nd = true) : openB (opL l b) p nd = true := by
  have h1 : ∀ i, i < (opL l a).length → shutAt p.1 nd ((opL l a).getD i vl0) = false := fun i hi => by
    cases e : shutAt p.1 nd ((opL l a).getD i vl0)
    · rfl
    · have := ix_some vl0 (shutAt p.1 nd) (opL l a) hi e
      unfold openB at ho
      rw [decide_eq_true this] at ho
      cases ho
  have h2 := ix_none vl0 (shutAt p.1 nd) (opL l b) fun i hi => by
    rw [opL_length] at hi
    have h3 := h1 i (by rw [opL_length]; exact hi)
    rw [opL_getD _ _ hi] at h3 ⊢
    generalize l.getD i vl0 = v at *
    unfold shutAt opV at *
    simp only at h3 ⊢
    cases e : hasI a v.1
    · rw [e] at h3
      revert h3
      cases decide (v.2.1 = p.1) <;> cases decide (v.2.2.1 = nd) <;> cases v.2.2.2 <;> simp
    · rw [h _ e]
      simp
  unfold openB
  rw [h2]
  rfl
theorem wet_mono {n : Int} {ps : List Pp} (hN : NetAt n ps) {l : List Vl} {a b : List Int} (h : ∀ x, hasI a x = true → hasI b x = true) (src : Int) : Sub (wetR ps (opL l a) src) (wetR ps (opL l b) src) :=
  reach_mono hN (openB_mono h) src
theorem hasI_take {a : List Int} {i j : Nat} (hij : i ≤ j) (x : Int) (h : hasI (a.take i) x = true) : hasI (a.take j) x = true := by
  unfold hasI at *
  rw [decide_eq_true_eq] at *
  rw [show a.take i = (a.take j).take i by rw [List.take_take, Nat.min_eq_left hij]] at h
  exact List.mem_of_mem_take h
theorem dry_split {R S : List Bool} (h : Sub R S) : ∀ k, (dryN R k).length = (nwTo R S k).length + (dryN S k).length
  | 0 => rfl
  | k + 1 => by
    have ih := dry_split h k
    have hk := h (k + 1)
    rw [dryN, nwTo, dryN]
    cases hr : R.getD (k + 1) false <;> cases hs : S.getD (k + 1) false
    · simp; omega
    · simp; omega
    · rw [hk hr] at hs; cases hs
    · simp; omega
theorem mem_nwTo {R S : List Bool} {x : Int} : ∀ {k}, x ∈ nwTo R S k → ∃ j, x = ((j : Nat) : Int) ∧ 1 ≤ j ∧ j ≤ k ∧ R.getD j false = false ∧ S.getD j false = true
  | 0, h => by cases h
  | k + 1, h => by
    rw [nwTo] at h
    split at h
    · rename_i hc
      rcases List.mem_append.1 h with h | h
      · obtain ⟨j, h1, h2, h3, h4⟩ := mem_nwTo h
        exact ⟨j, h1, h2, by omega, h4⟩
      · rw [List.mem_singleton] at h
        simp only [Bool.and_eq_true, Bool.not_eq_true'] at hc
        exact ⟨k + 1, h, by omega, Nat.le_refl _, hc.2, hc.1⟩
    · obtain ⟨j, h1, h2, h3, h4⟩ := mem_nwTo h
      exact ⟨j, h1, h2, by omega, h4⟩
/-- how many of the first k steps' nodes there are -/
noncomputable def nwSum (n : Int) (ps : List Pp) (l : List Vl) (src : Int) (a : List Int) : Nat → Nat
  | 0 => 0
  | k + 1 => nwSum n ps l src a k + (nwF n ps l src a k).length
theorem nw_count {n : Int} {ps : List Pp} (hN : NetAt n ps) (l : List Vl) (src : Int) (a : List Int) : ∀ k, k ≤ a.length → nwSum n ps l src a k + (dryO n ps l src (a.take k)).length = (dryO n ps l src []).length
  | 0, _ => by simp [nwSum]
  | k + 1, hk => by
    have ih := nw_count hN l src a k (by omega)
    have := dry_split (wet_mono hN (l := l) (a := a.take k) (b := a.take (k + 1)) (fun x => hasI_take (by omega) x) src) n.toNat
    rw [nwSum]
    unfold nwF dryO at *
    omega
theorem nw_in {n : Int} {ps : List Pp} (hN : NetAt n ps) {l : List Vl} {src : Int} {a : List Int} {k : Nat} (hk : k < a.length) {x : Int} (hx : x ∈ nwF n ps l src a k) : x ∈ dryO n ps l src [] ∧ x ∉ dryO n ps l src a := by
  obtain ⟨j, rfl, j1, j2, j3, j4⟩ := mem_nwTo hx
  constructor
  · unfold dryO
    rw [mem_dryN]
    refine ⟨j1, j2, ?_⟩
    cases e : (wetR ps (opL l []) src).getD j false
    · rfl
    · have := wet_mono hN (l := l) (a := []) (b := a.take k) (fun x h => by simp [hasI] at h) src j e
      rw [this] at j3; cases j3
  · unfold dryO
    rw [mem_dryN]
    rintro ⟨_, _, h⟩
    have := wet_mono hN (l := l) (a := a.take (k + 1)) (b := a) (fun x h => by
      have := hasI_take (a := a) (j := a.length) (by omega) x h
      rwa [List.take_length] at this) src j j4
    rw [this] at h; cases h
theorem dryO_perm {n : Int} {ps : List Pp} {l : List Vl} {src : Int} {a b : List Int} (h : a.Perm b) : dryO n ps l src a = dryO n ps l src b := by
  unfold dryO; rw [opL_perm l h]
/-- a useful valve is shut, and makes fewer nodes dry -/
theorem useTo_mem {n : Int} {ps : List Pp} {l : List Vl} {src : Int} {x : Int} : ∀ {k}, k ≤ (shutL l).length → x ∈ useTo n ps l src k → hasI (shutL l) x = true ∧ (dryO n ps l src [x]).length < (dryO n ps l src []).length
  | 0, _, h => by cases h
  | k + 1, hk, h => by
    rw [useTo] at h
    split at h
    · rename_i hc
      rcases List.mem_append.1 h with h | h
      · exact useTo_mem (by omega) h
      · rw [List.mem_singleton] at h
        subst h
        refine ⟨decide_eq_true ?_, hc⟩
        rw [List.getD_eq_getElem?_getD, List.getElem?_eq_getElem (by omega)]
        exact List.getElem_mem _
    · exact useTo_mem (by omega) h
/-- turning one valve on -/
theorem turn_opL {n : Int} {ps : List Pp} {l : List Vl} (hg : goodV n ps l = true) {q : Nat} (hq : q < l.length) {id : Int} (e : (l.getD q vl0).1 = id) : l.set q (id, (l.getD q vl0).2.1, (l.getD q vl0).2.2.1, false) = opL l [id] := by
  apply List.ext_getElem?
  intro i
  rcases Nat.lt_or_ge i l.length with hi | hi
  · have h1 : (opL l [id])[i]? = some ((opL l [id]).getD i vl0) := by
      rw [List.getD_eq_getElem?_getD, List.getElem?_eq_getElem (by rw [opL_length]; exact hi)]; rfl
    rw [h1, opL_getD _ _ hi]
    by_cases hqi : q = i
    · subst hqi
      rw [List.getElem?_set_self hi]
      unfold opV hasI
      rw [e]
      simp
    · rw [List.getElem?_set_ne hqi, List.getElem?_eq_getElem hi]
      have g : l.getD i vl0 = l[i] := by rw [List.getD_eq_getElem?_getD, List.getElem?_eq_getElem hi]; rfl
      have hne : (l.getD i vl0).1 ≠ id := by
        rw [← e]
        rcases Nat.lt_or_ge i q with h | h
        · have := vl_asc hg i (q - i - 1) (by omega)
          rw [show i + (q - i - 1) + 1 = q by omega] at this
          omega
        · have := vl_asc hg q (i - q - 1) (by omega)
          rw [show q + (i - q - 1) + 1 = i by omega] at this
          omega
      unfold opV hasI
      rw [g] at hne ⊢
      simp [hne]
  · rw [List.getElem?_eq_none (by simpa using hi), List.getElem?_eq_none (by rw [opL_length]; exact hi)]
end Go.Proofs.YtncblopbcnkinaaGreat
/- The best order is one, it waits least, and there is a gentle one: plain. -/
namespace Go.Proofs.YtncblopbcnkinaaGreat
open Go.Am
set_option linter.unusedVariables false
set_option linter.unusedSimpArgs false
/-- what the rest of an order costs -/
def rcN (stp : List Int → Int) : List Int → List Int → Int
  | _, [] => 0
  | a, x :: b => stp a + rcN stp (a ++ [x]) b
def okN (g : List Int → Int → Bool) : List Int → List Int → Bool
  | _, [] => true
  | a, x :: b => g a x && okN g (a ++ [x]) b
theorem snoc_app (a b : List Int) (x : Int) : (a ++ [x]) ++ b = a ++ x :: b := by simp
theorem rcN_wt {stp : List Int → Int} {wt : List Int → Int} (hw : ∀ a x, wt (a ++ [x]) = wt a + stp a) : ∀ (b a : List Int), wt (a ++ b) = wt a + rcN stp a b
  | [], a => by simp [rcN]
  | x :: b, a => by
    rw [← snoc_app, rcN_wt hw b (a ++ [x]), hw, rcN]
    omega
theorem okN_at {g : List Int → Int → Bool} : ∀ (b a : List Int), okN g a b = true ↔ ∀ i, a.length ≤ i → i < (a ++ b).length → g ((a ++ b).take i) ((a ++ b).getD i 0) = true
  | [], a => by
    simp only [okN, List.append_nil, true_iff]
    intro i h1 h2
    omega
  | x :: b, a => by
    rw [okN, Bool.and_eq_true, okN_at b (a ++ [x]), snoc_app]
    have h0 : (a ++ x :: b).take a.length = a := by rw [List.take_left']; rfl
    have h1 : (a ++ x :: b).getD a.length 0 = x := by
      rw [List.getD_eq_getElem?_getD, List.getElem?_append_right (Nat.le_refl _), Nat.sub_self]; rfl
    constructor
    · rintro ⟨h2, h3⟩ i h4 h5
      rcases Nat.lt_or_ge a.length i with h | h
      · exact h3 i (by simp; omega) h5
      · obtain rfl : i = a.length := by omega
        rw [h0, h1]; exact h2
    · intro h
      refine ⟨?_, fun i h4 h5 => h i (by simp at h4; omega) h5⟩
      have := h a.length (Nat.le_refl _) (by simp)
      rwa [h0, h1] at this
theorem bestTo_some {rec : List Int → Bst} {g : List Int → Int → Bool} {ids a : List Int} : ∀ {k}, 0 ≤ (bestTo rec g ids a k).2 → ∃ i, i < k ∧ hasI a (ids.getD i 0) = false ∧ g a (ids.getD i 0) = true ∧ bestTo rec g ids a k = rec (a ++ [ids.getD i 0])
  | 0, h => absurd h (by simp [bestTo])
  | k + 1, h => by
    rw [bestTo] at h ⊢
    split at h
    · rename_i hc
      rw [if_pos hc]
      obtain ⟨i, h1, h2⟩ := bestTo_some h
      exact ⟨i, by omega, h2⟩
    · rename_i hc
      rw [if_neg hc]
      split at h
      · rename_i hd
        rw [if_pos hd]
        refine ⟨k, by omega, ?_, ?_, rfl⟩
        · cases e : hasI a (ids.getD k 0)
          · rfl
          · exact absurd (.inl e) hc
        · cases e : g a (ids.getD k 0)
          · exact absurd (.inr e) hc
          · rfl
      · rename_i hd
        rw [if_neg hd]
        obtain ⟨i, h1, h2⟩ := bestTo_some h
        exact ⟨i, by omega, h2⟩
theorem bestTo_le {rec : List Int → Bst} {g : List Int → Int → Bool} {ids a : List Int} {i : Nat} (h1 : hasI a (ids.getD i 0) = false) (h2 : g a (ids.getD i 0) = true) (h3 : 0 ≤ (rec (a ++ [ids.getD i 0])).2) : ∀ k, i < k → 0 ≤ (bestTo rec g ids a k).2 ∧ (bestTo rec g ids a k).2 ≤ (rec (a ++ [ids.getD i 0])).2
  | 0, h => absurd h (Nat.not_lt_zero _)
  | k + 1, h => by
    rw [bestTo]
    rcases Nat.lt_or_ge i k with hi | hi
    · have ih := bestTo_le (rec := rec) h1 h2 h3 k hi
      split
      · exact ih
      · split
        · rename_i hd
          refine ⟨hd.1, ?_⟩
          rcases hd.2 with hd | hd <;> omega
        · exact ih
    · obtain rfl : i = k := by omega
      rw [if_neg (by rw [h1, h2]; simp)]
      split
      · exact ⟨h3, Int.le_refl _⟩
      · rename_i hd
        have : ¬ ((bestTo rec g ids a i).2 < 0 ∨ (rec (a ++ [ids.getD i 0])).2 < (bestTo rec g ids a i).2) := fun h => hd ⟨h3, h⟩
        omega
theorem getD_of_mem {l : List Int} {x : Int} (h : x ∈ l) : ∃ i, i < l.length ∧ l.getD i 0 = x := by
  obtain ⟨i, hi, e⟩ := List.getElem_of_mem h
  exact ⟨i, hi, by rw [List.getD_eq_getElem?_getD, List.getElem?_eq_getElem hi]; exact e⟩
/-- what is found is an order that may be taken, and costs what is told -/
theorem bestN_is {ids : List Int} {g : List Int → Int → Bool} {stp : List Int → Int} : ∀ (f : Nat) (a : List Int), GoodA ids a → 0 ≤ (bestN ids g stp f a).2 → ∃ b, (bestN ids g stp f a).1 = a ++ b ∧ GoodA ids (a ++ b) ∧ (a ++ b).length = ids.length ∧ okN g a b = true ∧ (bestN ids g stp f a).2 = rcN stp a b
  | 0, a, _, h => absurd h (by simp [bestN])
  | f + 1, a, hg, h => by
    rw [bestN] at h ⊢
    split at h
    · rename_i hl
      rw [if_pos hl]
      exact ⟨[], by simp, by simpa using hg, by simpa using hl, rfl, rfl⟩
    · rename_i hl
      rw [if_neg hl]
      unfold bestEnd at h ⊢
      split at h
      · omega
      · rename_i hn
        rw [if_neg hn]
        obtain ⟨i, h1, h2, h3, h4⟩ := bestTo_some (show 0 ≤ (bestTo (bestN ids g stp f) g ids a ids.length).2 by omega)
        rw [h4] at hn ⊢
        obtain ⟨b, k1, k2, k3, k4, k5⟩ := bestN_is (g := g) (stp := stp) f (a ++ [ids.getD i 0]) (hg.snoc h1 h2) (by omega)
        rw [snoc_app] at k1 k2 k3
        refine ⟨ids.getD i 0 :: b, k1, k2, k3, ?_, ?_⟩
        · rw [okN, h3, k4]; rfl
        · simp only [rcN]
          omega
/-- no order that may be taken costs less -/
theorem bestN_le {ids : List Int} {g : List Int → Int → Bool} {stp : List Int → Int} (hs : ∀ a, 0 ≤ stp a) : ∀ (f : Nat) (a b : List Int), ids.length - a.length < f → GoodA ids (a ++ b) → (a ++ b).length = ids.length → okN g a b = true → 0 ≤ (bestN ids g stp f a).2 ∧ (bestN ids g stp f a).2 ≤ rcN stp a b
  | 0, a, b, h, _, _, _ => absurd h (Nat.not_lt_zero _)
  | f + 1, a, [], h, hg, hl, ho => by
    rw [bestN, if_pos (by simpa using hl)]
    simp [rcN]
  | f + 1, a, x :: b, h, hg, hl, ho => by
    have hal : a.length < ids.length := by rw [← hl]; simp
    rw [bestN, if_neg (by omega)]
    rw [okN, Bool.and_eq_true] at ho
    have hx : x ∈ ids := hg.2 x (by simp)
    obtain ⟨i, hi, rfl⟩ := getD_of_mem hx
    have hn : hasI a (ids.getD i 0) = false := by
      refine decide_eq_false fun hm => ?_
      have := (List.nodup_append.1 hg.1).2.2 _ hm (ids.getD i 0) (by simp)
      exact this rfl
    have ih := bestN_le (ids := ids) (g := g) hs f (a ++ [ids.getD i 0]) b (by simp; omega) (by rw [snoc_app]; exact hg) (by rw [snoc_app]; exact hl) ho.2
    have ht := bestTo_le hn ho.1 ih.1 ids.length hi
    have hsa := hs a
    unfold bestEnd
    rw [if_neg (by omega), rcN]
    simp only
    omega
/-- where each order that is begun can be gone on with, there is an order -/
theorem okN_ex {ids : List Int} {g : List Int → Int → Bool} (hstep : ∀ a, GoodA ids a → a.length < ids.length → ∃ i, i < ids.length ∧ hasI a (ids.getD i 0) = false ∧ g a (ids.getD i 0) = true) : ∀ (f : Nat) (a : List Int), GoodA ids a → ids.length - a.length < f → ∃ b, GoodA ids (a ++ b) ∧ (a ++ b).length = ids.length ∧ okN g a b = true
  | 0, a, _, h => absurd h (Nat.not_lt_zero _)
  | f + 1, a, hg, h => by
    have hle := hg.le
    rcases Nat.lt_or_ge a.length ids.length with hl | hl
    · obtain ⟨i, h1, h2, h3⟩ := hstep a hg hl
      obtain ⟨b, k1, k2, k3⟩ := okN_ex hstep f (a ++ [ids.getD i 0]) (hg.snoc h1 h2) (by simp; omega)
      rw [snoc_app] at k1 k2
      exact ⟨ids.getD i 0 :: b, k1, k2, by rw [okN, h3, k3]; rfl⟩
    · exact ⟨[], by simpa using hg, by simp; omega, rfl⟩
theorem mem_shutTo {l : List Vl} {j : Nat} (hs : (l.getD j vl0).2.2.2 = true) : ∀ {k}, j < k → (l.getD j vl0).1 ∈ shutTo l k
  | 0, h => absurd h (Nat.not_lt_zero _)
  | k + 1, h => by
    rw [shutTo]
    rcases Nat.lt_or_ge j k with hj | hj
    · have := mem_shutTo hs hj
      split
      · exact List.mem_append.2 (.inl this)
      · exact this
    · obtain rfl : j = k := by omega
      rw [if_pos hs]
      simp
theorem vl_uniq {n : Int} {ps : List Pp} {l : List Vl} (hg : goodV n ps l = true) {i j : Nat} (hi : i < l.length) (hj : j < l.length) (e : (l.getD i vl0).1 = (l.getD j vl0).1) : i = j := by
  rcases Nat.lt_trichotomy i j with h | h | h
  · have := vl_asc hg i (j - i - 1) (by omega)
    rw [show i + (j - i - 1) + 1 = j by omega] at this
    omega
  · exact h
  · have := vl_asc hg j (i - j - 1) (by omega)
    rw [show j + (i - j - 1) + 1 = i by omega] at this
    omega
theorem pp_asc {n : Int} {ps : List Pp} (h : NetAt n ps) : ∀ (d i : Nat), i + d + 1 < ps.length → (ps.getD i pp0).1 < (ps.getD (i + d + 1) pp0).1
  | 0, i, hi => by
    have := h.f_asc (i + 1) hi (by omega)
    rwa [Nat.add_sub_cancel] at this
  | d + 1, i, hi => by
    have ih := pp_asc h d i (by omega)
    have := h.f_asc (i + d + 1 + 1) (by omega) (by omega)
    rw [Nat.add_sub_cancel] at this
    rw [show i + (d + 1) + 1 = i + d + 1 + 1 by omega]
    omega
theorem pipeIx_at {n : Int} {ps : List Pp} (h : NetAt n ps) {i : Nat} (hi : i < ps.length) : pipeIx ps (ps.getD i pp0).1 = (i : Int) := by
  unfold pipeIx
  rcases ix_cases pp0 (pipeIs (ps.getD i pp0).1) ps with ⟨_, h2⟩ | ⟨q, h1, h2, h3, _⟩
  · have := of_decide_eq_false (h2 i hi)
    exact absurd rfl this
  · have e := of_decide_eq_true h3
    rw [h1]
    have : q = i := by
      rcases Nat.lt_trichotomy q i with h' | h' | h'
      · have := pp_asc h (i - q - 1) q (by omega)
        rw [show q + (i - q - 1) + 1 = i by omega] at this
        omega
      · exact h'
      · have := pp_asc h (q - i - 1) i (by omega)
        rw [show i + (q - i - 1) + 1 = q by omega] at this
        omega
    rw [this]
theorem vlAt_at {n : Int} {ps : List Pp} {l : List Vl} (hg : goodV n ps l = true) {j : Nat} (hj : j < l.length) : vlAt l (l.getD j vl0).1 = l.getD j vl0 := by
  unfold vlAt
  rcases ix_cases vl0 (vlIs (l.getD j vl0).1) l with ⟨_, h2⟩ | ⟨q, h1, h2, h3, _⟩
  · have := of_decide_eq_false (h2 j hj)
    exact absurd rfl this
  · have e := of_decide_eq_true h3
    rw [h1, Int.toNat_natCast, vl_uniq hg h2 hj e]
/-- an order that is begun can be gone on with gently -/
theorem gentle_step {n : Int} {ps : List Pp} {l : List Vl} {src : Int} (hq : askR n ps l src = true) (gt : Bool) (a : List Int) (ha : GoodA (shutL l) a) (hl : a.length < (shutL l).length) : ∃ i, i < (shutL l).length ∧ hasI a ((shutL l).getD i 0) = false ∧ gtOf gt ps l src a ((shutL l).getD i 0) = true := by
  obtain ⟨hg, hN, hl10, hsrc, hs6⟩ := askR_at hq
  -- one that is left
  have hup := (shutTo_up hg l.length (Nat.le_refl _)).1
  have hnd : (shutL l).Nodup := hup.imp fun h => by omega
  have hleft : ∃ x ∈ shutL l, x ∉ a := by
    refine Classical.byContradiction fun hno => ?_
    have hsub : ∀ x ∈ shutL l, x ∈ a := fun x hx => Classical.byContradiction fun h => hno ⟨x, hx, h⟩
    have := (perm_of_sub hnd hsub (by omega)).length_eq
    omega
  refine Classical.byContradiction fun hno => ?_
  have hall : ∀ x ∈ shutL l, x ∉ a → rchB ps l src a x = false ∧ rchB ps l src (shutL l) x = true := fun x hx hxa => by
    obtain ⟨i, hi, e⟩ := getD_of_mem hx
    have hf : gtOf gt ps l src a x = false := by
      cases e2 : gtOf gt ps l src a x
      · rfl
      · exact absurd ⟨i, hi, by rw [e]; exact decide_eq_false hxa, by rw [e]; exact e2⟩ hno
    unfold gtOf at hf
    revert hf
    cases gt <;> cases rchB ps l src a x <;> cases rchB ps l src (shutL l) x <;> simp
  have hcl : Closed (openB (opL l (shutL l))) ps (wetR ps (opL l a) src) := by
    intro i hi k hk ho
    cases e : openB (opL l a) (ps.getD i pp0) (endOfP (ps.getD i pp0) k)
    · unfold openB at e
      rcases ix_cases vl0 (shutAt (ps.getD i pp0).1 (endOfP (ps.getD i pp0) k)) (opL l a) with ⟨h1, _⟩ | ⟨q, h1, h2, h3, _⟩
      · rw [h1] at e; cases e
      · rw [opL_length] at h2
        rw [opL_getD _ _ h2] at h3
        simp only [shutAt, opV, Bool.and_eq_true, decide_eq_true_eq, Bool.not_eq_true'] at h3
        obtain ⟨h4, h5, h6, h7⟩ := h3
        replace h4 := of_decide_eq_true h4
        replace h5 := of_decide_eq_true h5
        have hm := mem_shutTo (l := l) h6 h2
        have hr := (hall _ hm (of_decide_eq_false h7)).1
        unfold rchB at hr
        rw [vlAt_at hg h2] at hr
        unfold tchB at hr
        rw [h4, pipeIx_at hN hi, h5, Bool.or_eq_false_iff, Int.toNat_natCast] at hr
        exact hr.1.trans hr.2.symm
    · exact spr_closed (spr_reach hN (openB (opL l a)) src) i hi k hk e
  have hsub : Sub (wetR ps (opL l (shutL l)) src) (wetR ps (opL l a) src) :=
    spr_sub (spr_reach hN (openB (opL l (shutL l))) src) hcl (fun _ _ h => h) (sub_spr (spr_reach hN (openB (opL l a)) src))
  obtain ⟨x, hx, hxa⟩ := hleft
  obtain ⟨h1, h2⟩ := hall x hx hxa
  unfold rchB tchB at h1 h2
  rw [Bool.or_eq_false_iff] at h1
  rw [Bool.or_eq_true] at h2
  rcases h2 with h2 | h2
  · rw [hsub _ h2] at h1; exact absurd h1.1 (by simp)
  · rw [hsub _ h2] at h1; exact absurd h1.2 (by simp)
/-- an order, as it is asked for -/
theorem isOrd_good {n : Int} {ps : List Pp} {l : List Vl} {src : Int} {a : List Int} (h : isOrd n ps l src a = true) : GoodA (shutL l) a ∧ a.length = (shutL l).length := by
  unfold isOrd at h
  rw [Bool.and_eq_true] at h
  have hp := ordB_perm h.2
  obtain ⟨hg, _⟩ := askR_at h.1
  have hup := (shutTo_up hg l.length (Nat.le_refl _)).1
  have hnd : (shutL l).Nodup := hup.imp fun h => by omega
  exact ⟨⟨hp.nodup_iff.2 hnd, fun x hx => hp.mem_iff.1 hx⟩, hp.length_eq⟩
theorem good_isOrd {n : Int} {ps : List Pp} {l : List Vl} {src : Int} {a : List Int} (hq : askR n ps l src = true) (h : GoodA (shutL l) a) (hl : a.length = (shutL l).length) : isOrd n ps l src a = true := by
  unfold isOrd
  rw [hq, Bool.true_and]
  unfold ordB
  rw [decide_eq_true hl, Bool.true_and]
  refine decide_eq_true fun i hi => ⟨decide_eq_true (h.2 _ ?_), of_nodup h.1 hi⟩
  rw [List.getD_eq_getElem?_getD, List.getElem?_eq_getElem hi]
  exact List.getElem_mem _
theorem okN_gt {ps : List Pp} {l : List Vl} {src : Int} {a : List Int} : okN (gtOf true ps l src) [] a = gtlN ps l src a := by
  have h1 := okN_at (g := gtOf true ps l src) a []
  unfold gtlN
  cases e : okN (gtOf true ps l src) [] a
  · refine (decide_eq_false fun h => ?_).symm
    rw [h1.2 fun i _ hi => ?_] at e
    · cases e
    · have := h i (by simpa using hi)
      simpa [gtOf, gtlB] using this
  · refine (decide_eq_true fun i hi => ?_).symm
    have := h1.1 e i (by simp) (by simpa using hi)
    simpa [gtOf, gtlB] using this
theorem okN_free {ps : List Pp} {l : List Vl} {src : Int} : ∀ (b a : List Int), okN (gtOf false ps l src) a b = true
  | [], _ => rfl
  | x :: b, a => by rw [okN, okN_free b (a ++ [x])]; rfl
/-- what the laws say of the best orders -/
theorem bestR_law {n : Int} {ps : List Pp} {l : List Vl} {src : Int} {cu : List Int} (hq : askR n ps l src = true) (hcu : custOk n cu = true) (gt : Bool) :
    isOrd n ps l src (bestR n ps l src cu gt).1 = true ∧ waitN n ps l src (bestR n ps l src cu gt).1 cu = (bestR n ps l src cu gt).2 ∧ (gt = true → gtlN ps l src (bestR n ps l src cu gt).1 = true) ∧
    ∀ a, isOrd n ps l src a = true → (gt = true → gtlN ps l src a = true) → (bestR n ps l src cu gt).2 ≤ waitN n ps l src a cu := by
  obtain ⟨hgv, hN, hl10, hsrc, hs6⟩ := askR_at hq
  have hcr := (custOk_at hcu).2
  have hs := fun a => (stepN_rng hN.f_n (ps := ps) (l := l) (src := src) (ids := a) hcr).1
  have hw := fun b => rcN_wt (stp := fun a => stepN n ps l src a cu) (wt := fun a => waitN n ps l src a cu) (fun a x => waitN_snoc n ps l src a x cu) b []
  have hw0 : waitN n ps l src [] cu = 0 := rfl
  simp only [List.nil_append, hw0, Int.zero_add] at hw
  obtain ⟨b0, k1, k2, k3⟩ := okN_ex (ids := shutL l) (g := gtOf gt ps l src) (fun a h1 h2 => gentle_step hq gt a h1 h2) 7 [] (GoodA.nil _) (by simp; omega)
  have hle := fun b h1 h2 h3 => bestN_le (ids := shutL l) (g := gtOf gt ps l src) (stp := fun a => stepN n ps l src a cu) hs 7 [] b (by simp; omega) h1 h2 h3
  have h0 := (hle b0 k1 k2 k3).1
  obtain ⟨b, e1, e2, e3, e4, e5⟩ := bestN_is 7 [] (GoodA.nil _) h0
  rw [List.nil_append] at e1 e2 e3
  have ebr : (bestR n ps l src cu gt).1 = b := e1
  have ebs : (bestR n ps l src cu gt).2 = rcN (fun a => stepN n ps l src a cu) [] b := e5
  refine ⟨?_, ?_, fun hgt => ?_, fun a h1 h2 => ?_⟩
  · rw [ebr]; exact good_isOrd hq e2 e3
  · rw [ebr, ebs]; exact hw b
  · rw [ebr, ← okN_gt]
    rw [hgt] at e4
    exact e4
  · obtain ⟨g1, g2⟩ := isOrd_good h1
    have hok : okN (gtOf gt ps l src) [] a = true := by
      cases gt
      · exact okN_free a []
      · rw [okN_gt]; exact h2 rfl
    have := (hle a (by simpa using g1) (by simpa using g2) hok).2
    rw [← hw a] at this
    exact this
end Go.Proofs.YtncblopbcnkinaaGreat
/- BestOrder and QuickestOrder: both sides, and the laws. -/
namespace Go.Proofs.YtncblopbcnkinaaGreat
open Go.Am
set_option linter.unusedVariables false
set_option linter.unusedSimpArgs false
set_option maxRecDepth 100000
set_option maxHeartbeats 4000000

def quickOk (n : Int) (ps : List Pp) (l : List Vl) (src : Int) (cu : List Int) : Bool := askR n ps l src && custOk n cu
theorem quick1_A (m u d : Nat) (H : Heap) : AFunC Tryz.prog 28 [.slice (some ⟨u, 0, none⟩) m d] H (.bool true) H := by
  refine AFunC.of_body Tryz.func28 (by kernel_rfl) rfl (by kernel_rfl) (by simp [Tryz.ntmps28]) ?_
  simp -dsimp -implicitDefEqProofs (disch := omega) [go_sem, -List.getD_eq_getElem?_getD, ite_yes]
  exact fin_flat0 rfl rfl
theorem best1_A (n : Int) (ps : List Pp) (cp : Nat) (l : List Vl) (cv : Nat) (src : Int) (a : List Int) (ho : isOrd n ps l src a = true) (d : Nat) (H : Heap) (tp tv u b0 b1 b2 : Nat) (hP : Sl ppE H tp ps) (hS : Sl vlE H tv l) (hU : Sl nmE H u a) (l0 : b0 < H.length) (l1 : b1 < H.length) (l2 : b2 < H.length)
    (c0 : aCells H ⟨b0, 0, none⟩ 2 = some [.int .i64 n, .slice (some ⟨tp, 0, none⟩) ps.length cp]) (c1 : aCells H ⟨b1, 0, none⟩ 1 = some [.slice (some ⟨tv, 0, none⟩) l.length cv]) (c2 : aCells H ⟨b2, 0, none⟩ 1 = some [.int .i64 src]) :
    AFunC Tryz.prog 29 [.slice (some ⟨u, 0, none⟩) a.length d, .pointer (some ⟨b0, 0, none⟩), .pointer (some ⟨b1, 0, none⟩), .pointer (some ⟨b2, 0, none⟩)] H (.bool (gtlN ps l src a)) H := by
  refine AFunC.of_body Tryz.func29 (by kernel_rfl) rfl (by kernel_rfl) (by simp [Tryz.ntmps29]) ?_
  simp -dsimp -implicitDefEqProofs (disch := omega) [go_sem, -List.getD_eq_getElem?_getD, ite_yes, c0, c1, c2, l0, l1, l2]
  refine ACall.of (isGentle_A n ps cp l cv src a ho d _ tp tv u hP hS hU) ?_
  simp -dsimp -implicitDefEqProofs (disch := omega) [go_sem, -List.getD_eq_getElem?_getD, ite_yes]
  exact fin_flat0 rfl rfl
theorem iQuickest_bad (n : Int) (ps : List Pp) (hps : ps.length ≤ 1048577) (cp : Nat) (l : List Vl) (hl : l.length ≤ 1048577) (c : Nat) (src : Int) (cu : List Int) (hcu : cu.length ≤ 1048577) (cw : Nat) (H : Heap) (tp t w : Nat) (hP : Sl ppE H tp ps) (hS : Sl vlE H t l) (hC : Sl nmE H w cu) (hb : quickOk n ps l src cu = false) :
    AFunC Tryz.prog 8 [netV n tp ps.length cp, .slice (some ⟨t, 0, none⟩) l.length c, .int .i64 src, .slice (some ⟨w, 0, none⟩) cu.length cw] H (.tuple #[.slice none 0 0, .int .i64 0, .bool false]) H := by
  refine AFunC.of_body Tryz.func8 (by kernel_rfl) rfl (by kernel_rfl) (by simp [Tryz.ntmps8]) ?_
  have htp := hP.lt
  have ht := hS.lt
  have hw := hC.lt
  unfold quickOk at hb
  simp -dsimp -implicitDefEqProofs (disch := omega) [go_sem, -List.getD_eq_getElem?_getD, ite_yes, htp, ht, hw]
  refine ACall.of (canReopen_A n ps hps cp l hl c src _ tp t hP.app hS.app) ?_
  cases hq : askR n ps l src
  · simp -dsimp -implicitDefEqProofs (disch := omega) [go_sem, -List.getD_eq_getElem?_getD, ite_yes]
    exact fin_flat rfl rfl
  rw [hq, Bool.true_and] at hb
  simp -dsimp -implicitDefEqProofs (disch := omega) [go_sem, -List.getD_eq_getElem?_getD, ite_yes, htp, ht, hw]
  refine ACall.of (areCustomers_A n tp ps.length cp cu hcu cw _ w (by simp -dsimp -implicitDefEqProofs (disch := omega) [go_sem, -List.getD_eq_getElem?_getD, ite_yes, htp]) hC.app) ?_
  simp -dsimp -implicitDefEqProofs (disch := omega) [go_sem, -List.getD_eq_getElem?_getD, ite_yes, hb]
  exact fin_flat rfl rfl
theorem iQuickest_good (n : Int) (ps : List Pp) (hps : ps.length ≤ 1048577) (cp : Nat) (l : List Vl) (hl : l.length ≤ 1048577) (c : Nat) (src : Int) (cu : List Int) (hcu : cu.length ≤ 1048577) (cw : Nat) (H : Heap) (tp t w : Nat) (hP : Sl ppE H tp ps) (hS : Sl vlE H t l) (hC : Sl nmE H w cu) (hg : quickOk n ps l src cu = true) :
    AFunC Tryz.prog 8 [netV n tp ps.length cp, .slice (some ⟨t, 0, none⟩) l.length c, .int .i64 src, .slice (some ⟨w, 0, none⟩) cu.length cw] H (.tuple #[.slice (some ⟨H.length, 0, none⟩) (bestR n ps l src cu false).1.length 0, .int .i64 (bestR n ps l src cu false).2, .bool true]) (H ++ [some ⟨(bestR n ps l src cu false).1.flatMap nmE, true, 3, 1⟩]) := by
  refine AFunC.of_body Tryz.func8 (by kernel_rfl) rfl (by kernel_rfl) (by simp [Tryz.ntmps8]) ?_
  have htp := hP.lt
  have ht := hS.lt
  have hw := hC.lt
  unfold quickOk at hg
  rw [Bool.and_eq_true] at hg
  obtain ⟨hq, hc⟩ := hg
  simp -dsimp -implicitDefEqProofs (disch := omega) [go_sem, -List.getD_eq_getElem?_getD, ite_yes, htp, ht, hw]
  refine ACall.of (canReopen_A n ps hps cp l hl c src _ tp t hP.app hS.app) ?_
  simp -dsimp -implicitDefEqProofs (disch := omega) [go_sem, -List.getD_eq_getElem?_getD, ite_yes, hq, htp, ht, hw]
  refine ACall.of (areCustomers_A n tp ps.length cp cu hcu cw _ w (by simp -dsimp -implicitDefEqProofs (disch := omega) [go_sem, -List.getD_eq_getElem?_getD, ite_yes, htp]) hC.app) ?_
  simp -dsimp -implicitDefEqProofs (disch := omega) [go_sem, -List.getD_eq_getElem?_getD, ite_yes, hc, htp, ht, hw]
  refine ACall.of (vis_bestR hq hc false (fun _ => true) rfl (fun _ _ => rfl) ▸ bestOrder_A n ps cp l c src cu cw hq hc 28 #[] (fun _ => true) (fun _ => True) _ tp t w hP.app hS.app hC.app trivial (fun _ => trivial) (fun _ _ _ _ _ _ h _ => h) (fun G _ a u d _ _ => quick1_A a.length u d G)) ?_
  generalize bestR n ps l src cu false = r at *
  simp -dsimp -implicitDefEqProofs (disch := omega) [go_sem, -List.getD_eq_getElem?_getD, ite_yes]
  refine fin_list [some 1] rfl ?_ (by simp -dsimp -implicitDefEqProofs (disch := omega) [go_sem, -List.getD_eq_getElem?_getD, ite_yes])
  simp -dsimp -implicitDefEqProofs (disch := omega) [go_sem, -List.getD_eq_getElem?_getD, ite_yes]
  exact .inl ⟨rfl, nmE_flat _⟩
theorem sQuickest_bad (n : Int) (ps : List Pp) (hps : ps.length ≤ 1048577) (cp : Nat) (l : List Vl) (hl : l.length ≤ 1048577) (c : Nat) (src : Int) (cu : List Int) (hcu : cu.length ≤ 1048577) (cw : Nat) (H : Heap) (tp t w : Nat) (hP : Sl ppE H tp ps) (hS : Sl vlE H t l) (hC : Sl nmE H w cu) (hb : quickOk n ps l src cu = false) :
    AFunC Tryz.prog 15 [netV n tp ps.length cp, .slice (some ⟨t, 0, none⟩) l.length c, .int .i64 src, .slice (some ⟨w, 0, none⟩) cu.length cw] H (.tuple #[.slice (some ⟨H.length, 0, none⟩) 0 0, .int .i64 0, .bool false]) (H ++ [some ⟨[], true, 3, 1⟩]) := by
  refine AFunC.of_body Tryz.func15 (by kernel_rfl) rfl (by kernel_rfl) (by simp [Tryz.ntmps15]) ?_
  have htp := hP.lt
  have ht := hS.lt
  have hw := hC.lt
  unfold quickOk at hb
  simp -dsimp -implicitDefEqProofs (disch := omega) [go_sem, -List.getD_eq_getElem?_getD, ite_yes, htp, ht, hw]
  refine ACall.of (l18Asked_A n ps hps cp l hl c src _ tp t hP.app hS.app) ?_
  cases hq : askR n ps l src
  · simp -dsimp -implicitDefEqProofs (disch := omega) [go_sem, -List.getD_eq_getElem?_getD, ite_yes]
    refine fin_list [some 1] rfl ?_ (by simp -dsimp -implicitDefEqProofs (disch := omega) [go_sem, -List.getD_eq_getElem?_getD, ite_yes])
    simp -dsimp -implicitDefEqProofs (disch := omega) [go_sem, -List.getD_eq_getElem?_getD, ite_yes]
    exact .inl ⟨rfl, rfl⟩
  rw [hq, Bool.true_and] at hb
  simp -dsimp -implicitDefEqProofs (disch := omega) [go_sem, -List.getD_eq_getElem?_getD, ite_yes, htp, ht, hw]
  refine ACall.of (l5Customers_A n tp ps.length cp cu hcu cw _ w (by simp -dsimp -implicitDefEqProofs (disch := omega) [go_sem, -List.getD_eq_getElem?_getD, ite_yes, htp]) hC.app) ?_
  simp -dsimp -implicitDefEqProofs (disch := omega) [go_sem, -List.getD_eq_getElem?_getD, ite_yes, hb]
  refine fin_list [some 1] rfl ?_ (by simp -dsimp -implicitDefEqProofs (disch := omega) [go_sem, -List.getD_eq_getElem?_getD, ite_yes])
  simp -dsimp -implicitDefEqProofs (disch := omega) [go_sem, -List.getD_eq_getElem?_getD, ite_yes]
  exact .inl ⟨rfl, rfl⟩
theorem sQuickest_good (n : Int) (ps : List Pp) (hps : ps.length ≤ 1048577) (cp : Nat) (l : List Vl) (hl : l.length ≤ 1048577) (c : Nat) (src : Int) (cu : List Int) (hcu : cu.length ≤ 1048577) (cw : Nat) (H : Heap) (tp t w : Nat) (hP : Sl ppE H tp ps) (hS : Sl vlE H t l) (hC : Sl nmE H w cu) (hg : quickOk n ps l src cu = true) :
    AFunC Tryz.prog 15 [netV n tp ps.length cp, .slice (some ⟨t, 0, none⟩) l.length c, .int .i64 src, .slice (some ⟨w, 0, none⟩) cu.length cw] H (.tuple #[.slice (some ⟨H.length, 0, none⟩) (bestR n ps l src cu false).1.length 0, .int .i64 (bestR n ps l src cu false).2, .bool true]) (H ++ [some ⟨(bestR n ps l src cu false).1.flatMap nmE, true, 3, 1⟩]) := by
  refine AFunC.of_body Tryz.func15 (by kernel_rfl) rfl (by kernel_rfl) (by simp [Tryz.ntmps15]) ?_
  have htp := hP.lt
  have ht := hS.lt
  have hw := hC.lt
  unfold quickOk at hg
  rw [Bool.and_eq_true] at hg
  obtain ⟨hq, hc⟩ := hg
  simp -dsimp -implicitDefEqProofs (disch := omega) [go_sem, -List.getD_eq_getElem?_getD, ite_yes, htp, ht, hw]
  refine ACall.of (l18Asked_A n ps hps cp l hl c src _ tp t hP.app hS.app) ?_
  simp -dsimp -implicitDefEqProofs (disch := omega) [go_sem, -List.getD_eq_getElem?_getD, ite_yes, hq, htp, ht, hw]
  refine ACall.of (l5Customers_A n tp ps.length cp cu hcu cw _ w (by simp -dsimp -implicitDefEqProofs (disch := omega) [go_sem, -List.getD_eq_getElem?_getD, ite_yes, htp]) hC.app) ?_
  simp -dsimp -implicitDefEqProofs (disch := omega) [go_sem, -List.getD_eq_getElem?_getD, ite_yes, hc, htp, ht, hw]
  obtain ⟨hgv, hN, hl10, hsrc, hs6⟩ := askR_at hq
  refine ACall.via (l18Best_R n ps l src cu hq hc false tp cp t c w cw H.length 7 [] 0 (H.length + 1) _ (GoodA.nil _) (by simp; omega) (by omega) hP.app hS.app hC.app ((Heap.get_len_add _ _ 1).trans rfl) (by omega) (by simp)) ?_
  rintro v G ⟨g, cg, rfl, hg, hV, hQ, hgb⟩
  rw [show bestN (shutL l) (gtOf false ps l src) (fun a => stepN n ps l src a cu) 7 [] = bestR n ps l src cu false from rfl] at *
  generalize bestR n ps l src cu false = r at *
  simp -dsimp -implicitDefEqProofs (disch := omega) [go_sem, -List.getD_eq_getElem?_getD, ite_yes]
  exact fin_pick3 (fun t ht => (hQ.2 t (by simp; omega)).trans (Heap.get_append_left ht)) hg hgb (nmE_flat _)
theorem iBest_bad (n : Int) (ps : List Pp) (hps : ps.length ≤ 1048577) (cp : Nat) (l : List Vl) (hl : l.length ≤ 1048577) (c : Nat) (src : Int) (cu : List Int) (hcu : cu.length ≤ 1048577) (cw : Nat) (H : Heap) (tp t w : Nat) (hP : Sl ppE H tp ps) (hS : Sl vlE H t l) (hC : Sl nmE H w cu) (hb : quickOk n ps l src cu = false) :
    AFunC Tryz.prog 9 [netV n tp ps.length cp, .slice (some ⟨t, 0, none⟩) l.length c, .int .i64 src, .slice (some ⟨w, 0, none⟩) cu.length cw] H (.tuple #[.slice none 0 0, .int .i64 0, .bool false]) H := by
  refine AFunC.of_body Tryz.func9 (by kernel_rfl) rfl (by kernel_rfl) (by simp [Tryz.ntmps9]) ?_
  have htp := hP.lt
  have ht := hS.lt
  have hw := hC.lt
  unfold quickOk at hb
  simp -dsimp -implicitDefEqProofs (disch := omega) [go_sem, -List.getD_eq_getElem?_getD, ite_yes, htp, ht, hw]
  refine ACall.of (canReopen_A n ps hps cp l hl c src _ tp t hP.app hS.app) ?_
  cases hq : askR n ps l src
  · simp -dsimp -implicitDefEqProofs (disch := omega) [go_sem, -List.getD_eq_getElem?_getD, ite_yes]
    exact fin_flat rfl rfl
  rw [hq, Bool.true_and] at hb
  simp -dsimp -implicitDefEqProofs (disch := omega) [go_sem, -List.getD_eq_getElem?_getD, ite_yes, htp, ht, hw]
  refine ACall.of (areCustomers_A n tp ps.length cp cu hcu cw _ w (by simp -dsimp -implicitDefEqProofs (disch := omega) [go_sem, -List.getD_eq_getElem?_getD, ite_yes, htp]) hC.app) ?_
  simp -dsimp -implicitDefEqProofs (disch := omega) [go_sem, -List.getD_eq_getElem?_getD, ite_yes, hb]
  exact fin_flat rfl rfl
theorem iBest_good (n : Int) (ps : List Pp) (hps : ps.length ≤ 1048577) (cp : Nat) (l : List Vl) (hl : l.length ≤ 1048577) (c : Nat) (src : Int) (cu : List Int) (hcu : cu.length ≤ 1048577) (cw : Nat) (H : Heap) (tp t w : Nat) (hP : Sl ppE H tp ps) (hS : Sl vlE H t l) (hC : Sl nmE H w cu) (hg : quickOk n ps l src cu = true) :
    AFunC Tryz.prog 9 [netV n tp ps.length cp, .slice (some ⟨t, 0, none⟩) l.length c, .int .i64 src, .slice (some ⟨w, 0, none⟩) cu.length cw] H (.tuple #[.slice (some ⟨H.length, 0, none⟩) (bestR n ps l src cu true).1.length 0, .int .i64 (bestR n ps l src cu true).2, .bool true]) (H ++ [some ⟨(bestR n ps l src cu true).1.flatMap nmE, true, 3, 1⟩]) := by
  refine AFunC.of_body Tryz.func9 (by kernel_rfl) rfl (by kernel_rfl) (by simp [Tryz.ntmps9]) ?_
  have htp := hP.lt
  have ht := hS.lt
  have hw := hC.lt
  unfold quickOk at hg
  rw [Bool.and_eq_true] at hg
  obtain ⟨hq, hc⟩ := hg
  simp -dsimp -implicitDefEqProofs (disch := omega) [go_sem, -List.getD_eq_getElem?_getD, ite_yes, htp, ht, hw]
  refine ACall.of (canReopen_A n ps hps cp l hl c src _ tp t hP.app hS.app) ?_
  simp -dsimp -implicitDefEqProofs (disch := omega) [go_sem, -List.getD_eq_getElem?_getD, ite_yes, hq, htp, ht, hw]
  refine ACall.of (areCustomers_A n tp ps.length cp cu hcu cw _ w (by simp -dsimp -implicitDefEqProofs (disch := omega) [go_sem, -List.getD_eq_getElem?_getD, ite_yes, htp]) hC.app) ?_
  simp -dsimp -implicitDefEqProofs (disch := omega) [go_sem, -List.getD_eq_getElem?_getD, ite_yes, hc, htp, ht, hw]
  have B := bestOrder_A n ps cp l c src cu cw hq hc 29 #[.pointer (some ⟨H.length, 0, none⟩), .pointer (some ⟨H.length + 1, 0, none⟩), .pointer (some ⟨H.length + 2, 0, none⟩)] (gtlN ps l src)
    (fun G => H.length + 2 < G.length ∧ Sl ppE G tp ps ∧ Sl vlE G t l ∧ aCells G ⟨H.length, 0, none⟩ 2 = some [.int .i64 n, .slice (some ⟨tp, 0, none⟩) ps.length cp] ∧ aCells G ⟨H.length + 1, 0, none⟩ 1 = some [.slice (some ⟨t, 0, none⟩) l.length c] ∧ aCells G ⟨H.length + 2, 0, none⟩ 1 = some [.int .i64 src])
    (H ++ [some ⟨[.int .i64 n, .slice (some ⟨tp, 0, none⟩) ps.length cp], true, 26, 1⟩, some ⟨[.slice (some ⟨t, 0, none⟩) l.length c], true, 27, 1⟩, some ⟨[.int .i64 src], true, 3, 1⟩]) tp t w hP.app hS.app hC.app (by simp -dsimp -implicitDefEqProofs (disch := omega) [go_sem, -List.getD_eq_getElem?_getD, ite_yes]) (fun L => ⟨by simp, hP.app.app, hS.app.app, by simp -dsimp -implicitDefEqProofs (disch := omega) [go_sem, -List.getD_eq_getElem?_getD, ite_yes], by simp -dsimp -implicitDefEqProofs (disch := omega) [go_sem, -List.getD_eq_getElem?_getD, ite_yes], by simp -dsimp -implicitDefEqProofs (disch := omega) [go_sem, -List.getD_eq_getElem?_getD, ite_yes]⟩)
    (fun a b K G ha hb ⟨h0, h1, h2, h3, h4, h5⟩ k => by
      simp only [List.length_append, List.length_cons, List.length_nil] at ha hb
      exact ⟨Nat.lt_of_lt_of_le h0 k.1, k.sl h1 (by omega) (by omega), k.sl h2 (by omega) (by omega), k.cells (by omega) (by omega) (by omega) h3, k.cells (by omega) (by omega) (by omega) h4, k.cells (by omega) (by omega) (by omega) h5⟩)
    (fun G ⟨h0, h1, h2, h3, h4, h5⟩ a u d hU ho => best1_A n ps cp l c src a (by rw [isOrd, hq, ho]; rfl) d G tp t u _ _ _ h1 h2 hU (by omega) (by omega) h0 h3 h4 h5)
  rw [vis_bestR hq hc true (gtlN ps l src) rfl (fun a x => gtlN_snoc ps l src a x)] at B
  refine ACall.of B ?_
  generalize bestR n ps l src cu true = r at *
  simp -dsimp -implicitDefEqProofs (disch := omega) [go_sem, -List.getD_eq_getElem?_getD, ite_yes]
  refine fin_list [some 3] rfl ?_ (by simp -dsimp -implicitDefEqProofs (disch := omega) [go_sem, -List.getD_eq_getElem?_getD, ite_yes])
  simp -dsimp -implicitDefEqProofs (disch := omega) [go_sem, -List.getD_eq_getElem?_getD, ite_yes]
  exact .inl ⟨rfl, nmE_flat _⟩
theorem sBest_bad (n : Int) (ps : List Pp) (hps : ps.length ≤ 1048577) (cp : Nat) (l : List Vl) (hl : l.length ≤ 1048577) (c : Nat) (src : Int) (cu : List Int) (hcu : cu.length ≤ 1048577) (cw : Nat) (H : Heap) (tp t w : Nat) (hP : Sl ppE H tp ps) (hS : Sl vlE H t l) (hC : Sl nmE H w cu) (hb : quickOk n ps l src cu = false) :
    AFunC Tryz.prog 13 [netV n tp ps.length cp, .slice (some ⟨t, 0, none⟩) l.length c, .int .i64 src, .slice (some ⟨w, 0, none⟩) cu.length cw] H (.tuple #[.slice (some ⟨H.length, 0, none⟩) 0 0, .int .i64 0, .bool false]) (H ++ [some ⟨[], true, 3, 1⟩]) := by
  refine AFunC.of_body Tryz.func13 (by kernel_rfl) rfl (by kernel_rfl) (by simp [Tryz.ntmps13]) ?_
  have htp := hP.lt
  have ht := hS.lt
  have hw := hC.lt
  unfold quickOk at hb
  simp -dsimp -implicitDefEqProofs (disch := omega) [go_sem, -List.getD_eq_getElem?_getD, ite_yes, htp, ht, hw]
  refine ACall.of (l18Asked_A n ps hps cp l hl c src _ tp t hP.app hS.app) ?_
  cases hq : askR n ps l src
  · simp -dsimp -implicitDefEqProofs (disch := omega) [go_sem, -List.getD_eq_getElem?_getD, ite_yes]
    refine fin_list [some 1] rfl ?_ (by simp -dsimp -implicitDefEqProofs (disch := omega) [go_sem, -List.getD_eq_getElem?_getD, ite_yes])
    simp -dsimp -implicitDefEqProofs (disch := omega) [go_sem, -List.getD_eq_getElem?_getD, ite_yes]
    exact .inl ⟨rfl, rfl⟩
  rw [hq, Bool.true_and] at hb
  simp -dsimp -implicitDefEqProofs (disch := omega) [go_sem, -List.getD_eq_getElem?_getD, ite_yes, htp, ht, hw]
  refine ACall.of (l5Customers_A n tp ps.length cp cu hcu cw _ w (by simp -dsimp -implicitDefEqProofs (disch := omega) [go_sem, -List.getD_eq_getElem?_getD, ite_yes, htp]) hC.app) ?_
  simp -dsimp -implicitDefEqProofs (disch := omega) [go_sem, -List.getD_eq_getElem?_getD, ite_yes, hb]
  refine fin_list [some 1] rfl ?_ (by simp -dsimp -implicitDefEqProofs (disch := omega) [go_sem, -List.getD_eq_getElem?_getD, ite_yes])
  simp -dsimp -implicitDefEqProofs (disch := omega) [go_sem, -List.getD_eq_getElem?_getD, ite_yes]
  exact .inl ⟨rfl, rfl⟩
theorem sBest_good (n : Int) (ps : List Pp) (hps : ps.length ≤ 1048577) (cp : Nat) (l : List Vl) (hl : l.length ≤ 1048577) (c : Nat) (src : Int) (cu : List Int) (hcu : cu.length ≤ 1048577) (cw : Nat) (H : Heap) (tp t w : Nat) (hP : Sl ppE H tp ps) (hS : Sl vlE H t l) (hC : Sl nmE H w cu) (hg : quickOk n ps l src cu = true) :
    AFunC Tryz.prog 13 [netV n tp ps.length cp, .slice (some ⟨t, 0, none⟩) l.length c, .int .i64 src, .slice (some ⟨w, 0, none⟩) cu.length cw] H (.tuple #[.slice (some ⟨H.length, 0, none⟩) (bestR n ps l src cu true).1.length 0, .int .i64 (bestR n ps l src cu true).2, .bool true]) (H ++ [some ⟨(bestR n ps l src cu true).1.flatMap nmE, true, 3, 1⟩]) := by
  refine AFunC.of_body Tryz.func13 (by kernel_rfl) rfl (by kernel_rfl) (by simp [Tryz.ntmps13]) ?_
  have htp := hP.lt
  have ht := hS.lt
  have hw := hC.lt
  unfold quickOk at hg
  rw [Bool.and_eq_true] at hg
  obtain ⟨hq, hc⟩ := hg
  simp -dsimp -implicitDefEqProofs (disch := omega) [go_sem, -List.getD_eq_getElem?_getD, ite_yes, htp, ht, hw]
  refine ACall.of (l18Asked_A n ps hps cp l hl c src _ tp t hP.app hS.app) ?_
  simp -dsimp -implicitDefEqProofs (disch := omega) [go_sem, -List.getD_eq_getElem?_getD, ite_yes, hq, htp, ht, hw]
  refine ACall.of (l5Customers_A n tp ps.length cp cu hcu cw _ w (by simp -dsimp -implicitDefEqProofs (disch := omega) [go_sem, -List.getD_eq_getElem?_getD, ite_yes, htp]) hC.app) ?_
  simp -dsimp -implicitDefEqProofs (disch := omega) [go_sem, -List.getD_eq_getElem?_getD, ite_yes, hc, htp, ht, hw]
  obtain ⟨hgv, hN, hl10, hsrc, hs6⟩ := askR_at hq
  refine ACall.via (l18Best_R n ps l src cu hq hc true tp cp t c w cw H.length 7 [] 0 (H.length + 1) _ (GoodA.nil _) (by simp; omega) (by omega) hP.app hS.app hC.app ((Heap.get_len_add _ _ 1).trans rfl) (by omega) (by simp)) ?_
  rintro v G ⟨g, cg, rfl, hg, hV, hQ, hgb⟩
  rw [show bestN (shutL l) (gtOf true ps l src) (fun a => stepN n ps l src a cu) 7 [] = bestR n ps l src cu true from rfl] at *
  generalize bestR n ps l src cu true = r at *
  simp -dsimp -implicitDefEqProofs (disch := omega) [go_sem, -List.getD_eq_getElem?_getD, ite_yes]
  exact fin_pick3 (fun t ht => (hQ.2 t (by simp; omega)).trans (Heap.get_append_left ht)) hg hgb (nmE_flat _)
end Go.Proofs.YtncblopbcnkinaaGreat
/- Helpers of the laws on Alarm. -/
namespace Go.Proofs.YtncblopbcnkinaaGreat
open Go.Am
set_option linter.unusedVariables false
set_option linter.unusedSimpArgs false
set_option maxRecDepth 100000

abbrev Al := Int × Int × Int × Bool
def alE (r : Al) : List Value := [.int .i64 (r.1), .int .i64 (r.2.1), .int .i64 (r.2.2.1), .bool (r.2.2.2)]
theorem alE_flat (l : List Al) : (l.flatMap alE).all flat = true := flatMap_flat fun _ => rfl
theorem alE_length (l : List Al) : (l.flatMap alE).length = l.length * 4 := flatMap_length alE 4 (fun _ => rfl) l
/-- the marks that a law writes into a list -/
def marksAl (k0 : Int) (n : Nat) : List Al := (List.range n).map fun (i : Nat) => (k0 + 4 * (i : Int) + 0, k0 + 4 * (i : Int) + 1, k0 + 4 * (i : Int) + 2, decide ((k0 + 4 * (i : Int) + 3) % 3 = 0))
theorem marksAl_length (k0 : Int) (n : Nat) : (marksAl k0 n).length = n := by simp [marksAl]
theorem marksAl_getD (k0 : Int) (n : Nat) {k : Nat} (h : k < n) : (marksAl k0 n).getD k (0, 0, 0, false) = (k0 + 4 * (k : Int) + 0, k0 + 4 * (k : Int) + 1, k0 + 4 * (k : Int) + 2, decide ((k0 + 4 * (k : Int) + 3) % 3 = 0)) := by simp [marksAl, List.getD, h]
def szAl (n left : Int) : Int := if left - n < 0 then -1 else left - n
theorem szAl_len {l : List Al} {n : Int} (h : ¬ szAl l.length n < 0) : (l.length : Int) ≤ n := by
  unfold szAl at h
  split at h <;> omega
theorem szAl_rng {n : Nat} {left : Int} (h : ¬ szAl n left < 0) (h2 : left ≤ 1048576) : 0 ≤ szAl n left ∧ szAl n left ≤ 1048576 := by
  unfold szAl at h ⊢
  split at h <;> split <;> omega
end Go.Proofs.YtncblopbcnkinaaGreat
/- The laws' vBig, vInts, vHas and vAlarms. -/
namespace Go.Proofs.YtncblopbcnkinaaGreat
open Go.Am
set_option linter.unusedVariables false
set_option linter.unusedSimpArgs false
set_option maxRecDepth 100000
set_option maxHeartbeats 1000000

theorem vBig_A (n cc : Nat) (a : Option Addr) (H : Heap) : AFunC Tryz.prog 4 [.slice a n cc] H (.bool (decide (65536 < (n : Int)))) H := by
  refine AFunC.of_body Tryz.func4 (by kernel_rfl) rfl (by kernel_rfl) (by simp [Tryz.ntmps4]) ?_
  simp -dsimp -implicitDefEqProofs (disch := omega) [go_sem, -List.getD_eq_getElem?_getD, ite_yes]
  exact fin_flat0 rfl (by first | rfl | simp)
theorem vInts_same (l : List Int) (hl : l.length ≤ 1048577) (c d : Nat) (H : Heap) (t u : Nat) (hS : Sl nmE H t l) (hU : Sl nmE H u l) :
    AFunC Tryz.prog 14 [.slice (some ⟨t, 0, none⟩) l.length c, .slice (some ⟨u, 0, none⟩) l.length d] H (.bool true) H := by
  refine AFunC.of_body Tryz.func14 (by kernel_rfl) rfl (by kernel_rfl) (by simp [Tryz.ntmps14]) ?_
  have ht := hS.lt
  have hu := hU.lt
  have cs := fun k hk => hS.one (g := fun n => Value.int .i64 n) 0 k hk
  have cu := fun k hk => hU.one (g := fun n => Value.int .i64 n) 0 k hk
  simp -dsimp -implicitDefEqProofs (disch := omega) [go_sem, -List.getD_eq_getElem?_getD, ite_yes]
  refine ALoop.intro (ι := Nat) (fun k => k ≤ l.length) (fun k => [(0, .slice (some ⟨t, 0, none⟩) l.length c), (1, .slice (some ⟨u, 0, none⟩) l.length d), (5, .int .i64 k)]) (fun _ => H) (fun k => l.length - k) 0 (by omega) ?_ ?_
  · exact weakS_same (by simp -dsimp -implicitDefEqProofs (disch := omega) [go_sem, -List.getD_eq_getElem?_getD, ite_yes, ht, hu])
  · intro k hk
    by_cases hlt : k < l.length
    · simp -dsimp -implicitDefEqProofs (disch := omega) [go_sem, -List.getD_eq_getElem?_getD, ite_yes, hlt]
      refine ADraw.quiet (by kernel_rfl) (by kernel_rfl) (by kernel_rfl) ?_
      simp -dsimp -implicitDefEqProofs (disch := omega) [go_sem, -List.getD_eq_getElem?_getD, ite_yes, hlt, cs, cu]
      refine LoopEnd.of (k + 1) (by omega) (by omega) (weakS_same (by simp -dsimp -implicitDefEqProofs (disch := omega) [go_sem, -List.getD_eq_getElem?_getD, ite_yes, ht, hu]))
    · simp -dsimp -implicitDefEqProofs (disch := omega) [go_sem, -List.getD_eq_getElem?_getD, ite_yes, hlt]
      exact fin_flat0 rfl rfl
theorem vInts_nil (d u : Nat) (H : Heap) : AFunC Tryz.prog 14 [.slice none 0 0, .slice (some ⟨u, 0, none⟩) 0 d] H (.bool true) H := by
  refine AFunC.of_body Tryz.func14 (by kernel_rfl) rfl (by kernel_rfl) (by simp [Tryz.ntmps14]) ?_
  simp -dsimp -implicitDefEqProofs (disch := omega) [go_sem, -List.getD_eq_getElem?_getD, ite_yes]
  refine ALoop.intro (ι := Unit) (fun _ => True) (fun _ => [(0, .slice none 0 0), (5, .int .i64 0)]) (fun _ => H) (fun _ => 0) () trivial ?_ ?_
  · exact weakS_same (by simp -dsimp -implicitDefEqProofs (disch := omega) [go_sem, -List.getD_eq_getElem?_getD, ite_yes])
  · intro _ _
    simp -dsimp -implicitDefEqProofs (disch := omega) [go_sem, -List.getD_eq_getElem?_getD, ite_yes]
    exact fin_flat0 rfl rfl
end Go.Proofs.YtncblopbcnkinaaGreat
/- FnOrders: the law. -/
namespace Go.Proofs.YtncblopbcnkinaaGreat
open Go.Am Go.Lib
set_option linter.unusedVariables false
set_option linter.unusedSimpArgs false
set_option maxRecDepth 100000
set_option maxHeartbeats 8000000
theorem lawOrders_A {H : Heap} {tc n : Nat} (h : Bytes H tc n) (cc : Nat) : AFunC Tryz.prog 3 [.slice (some ⟨tc, 0, none⟩) n cc] H (.bool true) H := by
  refine AFunC.of_awp Tryz.func3 (by kernel_rfl) rfl (by simp [Tryz.ntmps3]) ?_
  have ht := h.lt
  refine AWp.step 2 [(0, .slice (some ⟨tc, 0, none⟩) n cc)] H (by kernel_rfl) (by kernel_rfl) ?_ ?_
  · simp -dsimp -implicitDefEqProofs (disch := omega) [go_sem, -List.getD_eq_getElem?_getD, ite_yes]
    refine ACall.of (vBig_A _ _ _ _) ?_
    simp -dsimp -implicitDefEqProofs (disch := omega) [go_sem, -List.getD_eq_getElem?_getD, ite_yes]
    refine AIf.of (fun h' => ?_) (fun h' => ?_)
    · simp -dsimp -implicitDefEqProofs (disch := omega) [go_sem, -List.getD_eq_getElem?_getD, ite_yes]
      exact fin_flat0 rfl rfl
    · simp -dsimp -implicitDefEqProofs (disch := omega) [go_sem, -List.getD_eq_getElem?_getD, ite_yes]
      exact ⟨weakS_same (by simp -dsimp -implicitDefEqProofs (disch := omega) [go_sem, -List.getD_eq_getElem?_getD, ite_yes, ht])⟩
  simp only [AWp_drop, AWp_drop0]
  refine AWp.step 4 [(0, .slice (some ⟨tc, 0, none⟩) n cc)] H (by kernel_rfl) (by kernel_rfl) ?_ ?_
  · simp -dsimp -implicitDefEqProofs (disch := omega) [go_sem, -List.getD_eq_getElem?_getD, ite_yes]
    refine ACall.via (drawWaiting_R h cc) ?_
    rintro _ _ ⟨N, ps, l, src, a, cu, rfl, hN, hp, hl, ha, hc, rfl⟩
    have W1 := fun c d e f H tp t u w => iWaitingOf_A N ps (by omega) c l (by omega) d src a (by omega) e cu (by omega) f H tp t u w
    have W2 := fun c d e f H tp t u w => sWaitingOf_A N ps (by omega) c l (by omega) d src a (by omega) e cu (by omega) f H tp t u w
    cases hg : isOrd N ps l src a && custOk N cu
    · rw [hg] at W1 W2
      simp only [waitV, Bool.false_eq_true, if_false] at W1 W2
      simp -dsimp -implicitDefEqProofs (disch := omega) [go_sem, -List.getD_eq_getElem?_getD, ite_yes]
      refine ACall.of (W1 _ _ _ _ _ _ _ _ _ (Sl.of rfl) (Sl.nth 1 rfl rfl) (Sl.nth 2 rfl rfl) (Sl.nth 3 rfl rfl)) ?_
      simp -dsimp -implicitDefEqProofs (disch := omega) [go_sem, -List.getD_eq_getElem?_getD, ite_yes]
      refine ACall.of (W2 _ _ _ _ _ _ _ _ _ (Sl.of rfl) (Sl.nth 1 rfl rfl) (Sl.nth 2 rfl rfl) (Sl.nth 3 rfl rfl)) ?_
      simp -dsimp -implicitDefEqProofs (disch := omega) [go_sem, -List.getD_eq_getElem?_getD, ite_yes]
      exact ⟨weakS_drop (by simp -dsimp -implicitDefEqProofs (disch := omega) [go_sem, -List.getD_eq_getElem?_getD, ite_yes, ht])⟩
    rw [hg] at W1 W2
    simp only [waitV, if_true] at W1 W2
    rw [Bool.and_eq_true] at hg
    obtain ⟨ho, hcu⟩ := hg
    have hq : askR N ps l src = true := by
      have ho' := ho
      unfold isOrd at ho'
      rw [Bool.and_eq_true] at ho'
      exact ho'.1
    have hqk : quickOk N ps l src cu = true := by unfold quickOk; rw [hq, hcu]; rfl
    obtain ⟨u1, u2, _, u4⟩ := bestR_law hq hcu false
    obtain ⟨b1, b2, b3, b4⟩ := bestR_law hq hcu true
    have s1 := bestR_small hq cu false
    have s2 := bestR_small hq cu true
    have b3 := b3 rfl
    have f1 := u4 a ho (fun h => by cases h)
    have f2 := u4 _ b1 (fun h => by cases h)
    have f3 := b4 a ho
    rw [b2] at f2
    have Q1 := fun c d f H tp t w => iQuickest_good N ps (by omega) c l (by omega) d src cu (by omega) f H tp t w
    have Q2 := fun c d f H tp t w => iBest_good N ps (by omega) c l (by omega) d src cu (by omega) f H tp t w
    have W3 := fun c d e f H tp t u w => iWaitingOf_A N ps (by omega) c l (by omega) d src (bestR N ps l src cu false).1 s1 e cu (by omega) f H tp t u w
    have W4 := fun c d e f H tp t u w => iWaitingOf_A N ps (by omega) c l (by omega) d src (bestR N ps l src cu true).1 s2 e cu (by omega) f H tp t u w
    have I3 := fun c d e H tp t u => iIsGentle_A N ps (by omega) c l (by omega) d src (bestR N ps l src cu true).1 s2 e H tp t u
    have I4 := fun c d e H tp t u => iIsGentle_A N ps (by omega) c l (by omega) d src a (by omega) e H tp t u
    have O5 := fun c d e H tp t u => iIsOrder_A N ps (by omega) c l (by omega) d src a (by omega) e H tp t u
    rw [u1, hcu, u2] at W3
    rw [b1, hcu, b2] at W4
    rw [b1, b3] at I3
    rw [ho, Bool.true_and] at I4
    rw [ho] at O5
    simp only [waitV, Bool.and_self, if_true] at W3 W4 I3
    generalize bestR N ps l src cu false = R1 at *
    generalize bestR N ps l src cu true = R2 at *
    generalize waitN N ps l src a cu = w at *
    have g1 : ¬ w < R1.2 := by omega
    have g2 : ¬ R2.2 < R1.2 := by omega
    simp -dsimp -implicitDefEqProofs (disch := omega) [go_sem, -List.getD_eq_getElem?_getD, ite_yes]
    refine ACall.of (W1 _ _ _ _ _ _ _ _ _ (Sl.of rfl) (Sl.nth 1 rfl rfl) (Sl.nth 2 rfl rfl) (Sl.nth 3 rfl rfl)) ?_
    simp -dsimp -implicitDefEqProofs (disch := omega) [go_sem, -List.getD_eq_getElem?_getD, ite_yes]
    refine ACall.of (W2 _ _ _ _ _ _ _ _ _ (Sl.of rfl) (Sl.nth 1 rfl rfl) (Sl.nth 2 rfl rfl) (Sl.nth 3 rfl rfl)) ?_
    simp -dsimp -implicitDefEqProofs (disch := omega) [go_sem, -List.getD_eq_getElem?_getD, ite_yes]
    refine ACall.of (Q1 _ _ _ _ _ _ _ (Sl.of rfl) (Sl.nth 1 rfl rfl) (Sl.nth 3 rfl rfl) hqk) ?_
    simp -dsimp -implicitDefEqProofs (disch := omega) [go_sem, -List.getD_eq_getElem?_getD, ite_yes]
    refine ACall.of (Q2 _ _ _ _ _ _ _ (Sl.of rfl) (Sl.nth 1 rfl rfl) (Sl.nth 3 rfl rfl) hqk) ?_
    simp -dsimp -implicitDefEqProofs (disch := omega) [go_sem, -List.getD_eq_getElem?_getD, ite_yes]
    refine ACall.of (W3 _ _ _ _ _ _ _ _ _ (Sl.of rfl) (Sl.nth 1 rfl rfl) (Sl.nth 5 rfl rfl) (Sl.nth 3 rfl rfl)) ?_
    simp -dsimp -implicitDefEqProofs (disch := omega) [go_sem, -List.getD_eq_getElem?_getD, ite_yes]
    refine ACall.of (W4 _ _ _ _ _ _ _ _ _ (Sl.of rfl) (Sl.nth 1 rfl rfl) (Sl.nth 6 rfl rfl) (Sl.nth 3 rfl rfl)) ?_
    simp -dsimp -implicitDefEqProofs (disch := omega) [go_sem, -List.getD_eq_getElem?_getD, ite_yes]
    refine ACall.of (I3 _ _ _ _ _ _ _ (Sl.of rfl) (Sl.nth 1 rfl rfl) (Sl.nth 6 rfl rfl)) ?_
    simp -dsimp -implicitDefEqProofs (disch := omega) [go_sem, -List.getD_eq_getElem?_getD, ite_yes]
    refine ACall.of (I4 _ _ _ _ _ _ _ (Sl.of rfl) (Sl.nth 1 rfl rfl) (Sl.nth 2 rfl rfl)) ?_
    cases hd : gtlN ps l src a
    · simp -dsimp -implicitDefEqProofs (disch := omega) [go_sem, -List.getD_eq_getElem?_getD, ite_yes, g1, g2]
      refine ACall.of (O5 _ _ _ _ _ _ _ (Sl.of rfl) (Sl.nth 1 rfl rfl) (Sl.nth 2 rfl rfl)) ?_
      simp -dsimp -implicitDefEqProofs (disch := omega) [go_sem, -List.getD_eq_getElem?_getD, ite_yes]
      exact ⟨weakS_drop (by simp -dsimp -implicitDefEqProofs (disch := omega) [go_sem, -List.getD_eq_getElem?_getD, ite_yes, ht])⟩
    · have f3 := f3 (fun _ => hd)
      have g3 : ¬ w < R2.2 := by omega
      simp -dsimp -implicitDefEqProofs (disch := omega) [go_sem, -List.getD_eq_getElem?_getD, ite_yes, g1, g2, g3]
      refine ACall.of (O5 _ _ _ _ _ _ _ (Sl.of rfl) (Sl.nth 1 rfl rfl) (Sl.nth 2 rfl rfl)) ?_
      simp -dsimp -implicitDefEqProofs (disch := omega) [go_sem, -List.getD_eq_getElem?_getD, ite_yes]
      exact ⟨weakS_drop (by simp -dsimp -implicitDefEqProofs (disch := omega) [go_sem, -List.getD_eq_getElem?_getD, ite_yes, ht])⟩
  simp only [AWp_drop, AWp_drop0]
  refine AWp.step 5 [(0, .slice (some ⟨tc, 0, none⟩) n cc)] H (by kernel_rfl) (by kernel_rfl) ?_ ?_
  · simp -dsimp -implicitDefEqProofs (disch := omega) [go_sem, -List.getD_eq_getElem?_getD, ite_yes]
    refine ACall.via (drawBest_R h cc) ?_
    rintro _ _ ⟨N, ps, l, src, cu, rfl, hN, hp, hl, hc, rfl⟩
    cases hqk : quickOk N ps l src cu
    · simp -dsimp -implicitDefEqProofs (disch := omega) [go_sem, -List.getD_eq_getElem?_getD, ite_yes]
      refine ACall.of (iBest_bad N ps (by omega) _ l (by omega) _ src cu (by omega) _ _ _ _ _ (Sl.of rfl) (Sl.nth 1 rfl rfl) (Sl.nth 2 rfl rfl) hqk) ?_
      simp -dsimp -implicitDefEqProofs (disch := omega) [go_sem, -List.getD_eq_getElem?_getD, ite_yes]
      refine ACall.of (sBest_bad N ps (by omega) _ l (by omega) _ src cu (by omega) _ _ _ _ _ (Sl.of rfl) (Sl.nth 1 rfl rfl) (Sl.nth 2 rfl rfl) hqk) ?_
      simp -dsimp -implicitDefEqProofs (disch := omega) [go_sem, -List.getD_eq_getElem?_getD, ite_yes]
      refine ACall.of (vInts_nil _ _ _) ?_
      simp -dsimp -implicitDefEqProofs (disch := omega) [go_sem, -List.getD_eq_getElem?_getD, ite_yes]
      refine ACall.of (iQuickest_bad N ps (by omega) _ l (by omega) _ src cu (by omega) _ _ _ _ _ (Sl.of rfl) (Sl.nth 1 rfl rfl) (Sl.nth 2 rfl rfl) hqk) ?_
      simp -dsimp -implicitDefEqProofs (disch := omega) [go_sem, -List.getD_eq_getElem?_getD, ite_yes]
      refine ACall.of (sQuickest_bad N ps (by omega) _ l (by omega) _ src cu (by omega) _ _ _ _ _ (Sl.of rfl) (Sl.nth 1 rfl rfl) (Sl.nth 2 rfl rfl) hqk) ?_
      simp -dsimp -implicitDefEqProofs (disch := omega) [go_sem, -List.getD_eq_getElem?_getD, ite_yes]
      refine ACall.of (vInts_nil _ _ _) ?_
      simp -dsimp -implicitDefEqProofs (disch := omega) [go_sem, -List.getD_eq_getElem?_getD, ite_yes]
      exact ⟨weakS_drop (by simp -dsimp -implicitDefEqProofs (disch := omega) [go_sem, -List.getD_eq_getElem?_getD, ite_yes, ht])⟩
    have hq : askR N ps l src = true := by
      have hq' := hqk
      unfold quickOk at hq'
      rw [Bool.and_eq_true] at hq'
      exact hq'.1
    have s1 := bestR_small hq cu false
    have s2 := bestR_small hq cu true
    have Q1 := fun c d f H tp t w => iBest_good N ps (by omega) c l (by omega) d src cu (by omega) f H tp t w
    have Q2 := fun c d f H tp t w => sBest_good N ps (by omega) c l (by omega) d src cu (by omega) f H tp t w
    have Q3 := fun c d f H tp t w => iQuickest_good N ps (by omega) c l (by omega) d src cu (by omega) f H tp t w
    have Q4 := fun c d f H tp t w => sQuickest_good N ps (by omega) c l (by omega) d src cu (by omega) f H tp t w
    generalize bestR N ps l src cu false = R1 at *
    generalize bestR N ps l src cu true = R2 at *
    simp -dsimp -implicitDefEqProofs (disch := omega) [go_sem, -List.getD_eq_getElem?_getD, ite_yes]
    refine ACall.of (Q1 _ _ _ _ _ _ _ (Sl.of rfl) (Sl.nth 1 rfl rfl) (Sl.nth 2 rfl rfl) hqk) ?_
    simp -dsimp -implicitDefEqProofs (disch := omega) [go_sem, -List.getD_eq_getElem?_getD, ite_yes]
    refine ACall.of (Q2 _ _ _ _ _ _ _ (Sl.of rfl) (Sl.nth 1 rfl rfl) (Sl.nth 2 rfl rfl) hqk) ?_
    simp -dsimp -implicitDefEqProofs (disch := omega) [go_sem, -List.getD_eq_getElem?_getD, ite_yes]
    refine ACall.of (vInts_same R2.1 s2 _ _ _ _ _ (Sl.nth 4 rfl rfl) (Sl.nth 5 rfl rfl)) ?_
    simp -dsimp -implicitDefEqProofs (disch := omega) [go_sem, -List.getD_eq_getElem?_getD, ite_yes]
    refine ACall.of (Q3 _ _ _ _ _ _ _ (Sl.of rfl) (Sl.nth 1 rfl rfl) (Sl.nth 2 rfl rfl) hqk) ?_
    simp -dsimp -implicitDefEqProofs (disch := omega) [go_sem, -List.getD_eq_getElem?_getD, ite_yes]
    refine ACall.of (Q4 _ _ _ _ _ _ _ (Sl.of rfl) (Sl.nth 1 rfl rfl) (Sl.nth 2 rfl rfl) hqk) ?_
    simp -dsimp -implicitDefEqProofs (disch := omega) [go_sem, -List.getD_eq_getElem?_getD, ite_yes]
    refine ACall.of (vInts_same R1.1 s1 _ _ _ _ _ (Sl.nth 6 rfl rfl) (Sl.nth 7 rfl rfl)) ?_
    simp -dsimp -implicitDefEqProofs (disch := omega) [go_sem, -List.getD_eq_getElem?_getD, ite_yes]
    exact ⟨weakS_drop (by simp -dsimp -implicitDefEqProofs (disch := omega) [go_sem, -List.getD_eq_getElem?_getD, ite_yes, ht])⟩
  simp only [AWp_drop, AWp_drop0]
  refine AWp.last (by kernel_rfl) ?_
  simp -dsimp -implicitDefEqProofs (disch := omega) [go_sem, -List.getD_eq_getElem?_getD, ite_yes]
  refine ACall.via (drawIsGentle_R h cc) ?_
  rintro _ _ ⟨N, ps, l, src, a, rfl, hN, hp, hl, ha, rfl⟩
  have I1 := fun c d e H tp t u => iIsGentle_A N ps (by omega) c l (by omega) d src a (by omega) e H tp t u
  have I2 := fun c d e H tp t u => sIsGentle_A N ps (by omega) c l (by omega) d src a (by omega) e H tp t u
  have O1 := fun c d e H tp t u => iIsOrder_A N ps (by omega) c l (by omega) d src a (by omega) e H tp t u
  have O2 := fun c d e H tp t u => sIsOrder_A N ps (by omega) c l (by omega) d src a (by omega) e H tp t u
  generalize gtlN ps l src a = g at *
  generalize isOrd N ps l src a = o at *
  simp -dsimp -implicitDefEqProofs (disch := omega) [go_sem, -List.getD_eq_getElem?_getD, ite_yes]
  refine ACall.of (I1 _ _ _ _ _ _ _ (Sl.of rfl) (Sl.nth 1 rfl rfl) (Sl.nth 2 rfl rfl)) ?_
  simp -dsimp -implicitDefEqProofs (disch := omega) [go_sem, -List.getD_eq_getElem?_getD, ite_yes]
  refine ACall.of (I2 _ _ _ _ _ _ _ (Sl.of rfl) (Sl.nth 1 rfl rfl) (Sl.nth 2 rfl rfl)) ?_
  simp -dsimp -implicitDefEqProofs (disch := omega) [go_sem, -List.getD_eq_getElem?_getD, ite_yes]
  refine ADraw.any _ (by kernel_rfl) (SubH.refl) ?_
  refine AAny.takes (fuel := 7) (by kernel_rfl) (by kernel_rfl) [0, 1, 2, 3, 4, 5, 6, 7, 8, 10, 11, 12, 15, 16, 17] (by kernel_rfl) (by kernel_rfl) ?_
  simp -dsimp -implicitDefEqProofs (disch := omega) [go_sem, -List.getD_eq_getElem?_getD, ite_yes, ht]
  refine AAny.two 6 9 14 (by kernel_rfl) (by kernel_rfl) (by kernel_rfl) ?_ ?_
  · simp -dsimp -implicitDefEqProofs (disch := omega) [go_sem, -List.getD_eq_getElem?_getD, ite_yes, ht]
    refine AAt.of1 ?_
    refine AAny.two 5 13 14 (by kernel_rfl) (by kernel_rfl) (by kernel_rfl) ?_ ?_
    · simp -dsimp -implicitDefEqProofs (disch := omega) [go_sem, -List.getD_eq_getElem?_getD, ite_yes, ht]
      refine ACall.of (O1 _ _ _ _ _ _ _ (Sl.of rfl) (Sl.nth 1 rfl rfl) (Sl.nth 2 rfl rfl)) ?_
      simp -dsimp -implicitDefEqProofs (disch := omega) [go_sem, -List.getD_eq_getElem?_getD, ite_yes, ht]
      refine AAt.of1 ?_
      refine AAny.one1 4 14 ?_
      simp -dsimp -implicitDefEqProofs (disch := omega) [go_sem, -List.getD_eq_getElem?_getD, ite_yes, ht]
      refine AAt.of1 ?_
      refine AAny.one1 3 18 ?_
      simp -dsimp -implicitDefEqProofs (disch := omega) [go_sem, -List.getD_eq_getElem?_getD, ite_yes, ht]
      refine ACall.of (O2 _ _ _ _ _ _ _ (Sl.of rfl) (Sl.nth 1 rfl rfl) (Sl.nth 2 rfl rfl)) ?_
      simp -dsimp -implicitDefEqProofs (disch := omega) [go_sem, -List.getD_eq_getElem?_getD, ite_yes, ht]
      refine AAt.of1 ?_
      refine AAny.takes (fuel := 0) (by kernel_rfl) (by kernel_rfl) [19, 20, 21] (by kernel_rfl) (by kernel_rfl) ?_
      simp -dsimp -implicitDefEqProofs (disch := omega) [go_sem, -List.getD_eq_getElem?_getD, ite_yes, ht]
      refine AAny.done (by kernel_rfl) ?_
      simp -dsimp -implicitDefEqProofs (disch := omega) [go_sem, -List.getD_eq_getElem?_getD, ite_yes, ht]
      exact fin_flat rfl rfl
    · simp -dsimp -implicitDefEqProofs (disch := omega) [go_sem, -List.getD_eq_getElem?_getD, ite_yes, ht]
      refine AAt.of1 ?_
      refine AAny.one1 4 13 ?_
      simp -dsimp -implicitDefEqProofs (disch := omega) [go_sem, -List.getD_eq_getElem?_getD, ite_yes, ht]
      refine ACall.of (O1 _ _ _ _ _ _ _ (Sl.of rfl) (Sl.nth 1 rfl rfl) (Sl.nth 2 rfl rfl)) ?_
      simp -dsimp -implicitDefEqProofs (disch := omega) [go_sem, -List.getD_eq_getElem?_getD, ite_yes, ht]
      refine AAt.of1 ?_
      refine AAny.one1 3 18 ?_
      simp -dsimp -implicitDefEqProofs (disch := omega) [go_sem, -List.getD_eq_getElem?_getD, ite_yes, ht]
      refine ACall.of (O2 _ _ _ _ _ _ _ (Sl.of rfl) (Sl.nth 1 rfl rfl) (Sl.nth 2 rfl rfl)) ?_
      simp -dsimp -implicitDefEqProofs (disch := omega) [go_sem, -List.getD_eq_getElem?_getD, ite_yes, ht]
      refine AAt.of1 ?_
      refine AAny.takes (fuel := 0) (by kernel_rfl) (by kernel_rfl) [19, 20, 21] (by kernel_rfl) (by kernel_rfl) ?_
      simp -dsimp -implicitDefEqProofs (disch := omega) [go_sem, -List.getD_eq_getElem?_getD, ite_yes, ht]
      refine AAny.done (by kernel_rfl) ?_
      simp -dsimp -implicitDefEqProofs (disch := omega) [go_sem, -List.getD_eq_getElem?_getD, ite_yes, ht]
      exact fin_flat rfl rfl
  · simp -dsimp -implicitDefEqProofs (disch := omega) [go_sem, -List.getD_eq_getElem?_getD, ite_yes, ht]
    refine AAt.of1 ?_
    refine AAny.one1 5 9 ?_
    simp -dsimp -implicitDefEqProofs (disch := omega) [go_sem, -List.getD_eq_getElem?_getD, ite_yes, ht]
    refine AAt.of1 ?_
    refine AAny.one1 4 13 ?_
    simp -dsimp -implicitDefEqProofs (disch := omega) [go_sem, -List.getD_eq_getElem?_getD, ite_yes, ht]
    refine ACall.of (O1 _ _ _ _ _ _ _ (Sl.of rfl) (Sl.nth 1 rfl rfl) (Sl.nth 2 rfl rfl)) ?_
    simp -dsimp -implicitDefEqProofs (disch := omega) [go_sem, -List.getD_eq_getElem?_getD, ite_yes, ht]
    refine AAt.of1 ?_
    refine AAny.one1 3 18 ?_
    simp -dsimp -implicitDefEqProofs (disch := omega) [go_sem, -List.getD_eq_getElem?_getD, ite_yes, ht]
    refine ACall.of (O2 _ _ _ _ _ _ _ (Sl.of rfl) (Sl.nth 1 rfl rfl) (Sl.nth 2 rfl rfl)) ?_
    simp -dsimp -implicitDefEqProofs (disch := omega) [go_sem, -List.getD_eq_getElem?_getD, ite_yes, ht]
    refine AAt.of1 ?_
    refine AAny.takes (fuel := 0) (by kernel_rfl) (by kernel_rfl) [19, 20, 21] (by kernel_rfl) (by kernel_rfl) ?_
    simp -dsimp -implicitDefEqProofs (disch := omega) [go_sem, -List.getD_eq_getElem?_getD, ite_yes, ht]
    refine AAny.done (by kernel_rfl) ?_
    simp -dsimp -implicitDefEqProofs (disch := omega) [go_sem, -List.getD_eq_getElem?_getD, ite_yes, ht]
    exact fin_flat rfl rfl
end Go.Proofs.YtncblopbcnkinaaGreat
