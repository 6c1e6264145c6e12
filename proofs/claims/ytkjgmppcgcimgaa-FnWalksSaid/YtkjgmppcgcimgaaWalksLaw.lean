/- FnWalks: plain facts. -/
import Derived.Test.YtkjgmppcgcimgaaTour2
namespace Go.Proofs.Ytkjgmppcgcimgaa
open Go.Am
set_option linter.unusedVariables false
set_option linter.unusedSimpArgs false

structure TourAt (m : Nat) (w : List Int → Int) (p : List Int → Prop) (q : Bwk) : Prop where
  f_good : GoodW m q.1
  f_len : q.1.length = m
  f_end : q.2 = w q.1
  f_least : ∀ b, GoodW m b → b.length = m → p b → q.2 ≤ w b
theorem tTo_none {rec : List Int → Bwk} {a : List Int} : ∀ k : Nat, (∀ j : Nat, j < k → hasI a (j : Int) = true) → tTo rec a k = ([], -1)
  | 0, _ => rfl
  | k + 1, h => by rw [tTo, if_pos (h k (Nat.lt_succ_self k))]; exact tTo_none k fun j hj => h j (by omega)
theorem take_not {m : Nat} {a b : List Int} (hb : GoodW m b) (hl : a.length < b.length) (ht : b.take a.length = a) : hasI a (b.getD a.length 0) = false := by
  refine decide_eq_false fun hm => ?_
  rw [List.getD_eq_getElem?_getD, List.getElem?_eq_getElem hl, Option.getD_some] at hm
  have hm2 : b[a.length] ∈ b.take a.length := by rw [ht]; exact hm
  obtain ⟨i, hi, he⟩ := List.getElem_of_mem hm2
  rw [List.length_take] at hi
  rw [List.getElem_take] at he
  exact (List.pairwise_iff_getElem.1 hb.g_nd i a.length (by omega) hl (by omega)) (by simpa using he)
theorem tour_at {m : Nat} {w : List Int → Int} (hw : ∀ a, GoodW m a → 0 ≤ w a) : ∀ (f : Nat) (a : List Int), GoodW m a → m - a.length < f → TourAt m w (fun b => b.take a.length = a) (tourW m w f a)
  | 0, a, hg, h => absurd h (Nat.not_lt_zero _)
  | f + 1, a, hg, hf => by
    have hle := hg.le
    rw [tourW]
    by_cases hl : a.length = m
    · rw [if_pos hl]
      refine ⟨hg, hl, rfl, fun b hb hbl hp => ?_⟩
      have : b = a := by rw [← hp, List.take_of_length_le (by omega)]
      rw [this]; exact Int.le_refl _
    · rw [if_neg hl]
      have ih : ∀ k, k < m → hasI a (k : Nat) = false → TourAt m w (fun b => b.take (a ++ [(k : Int)]).length = a ++ [(k : Int)]) (tourW m w f (a ++ [(k : Int)])) := fun k hk hn =>
        tour_at hw f _ (hg.snoc hk hn) (by simp; omega)
      have rng : ∀ b, GoodW m b → b.length = m → 0 ≤ b.getD a.length 0 ∧ b.getD a.length 0 < m := fun b hb hbl => by
        rw [List.getD_eq_getElem?_getD, List.getElem?_eq_getElem (by omega)]
        exact hb.g_in _ (List.getElem_mem _)
      have key : ∀ k, k ≤ m → (∃ j, j < k ∧ hasI a (j : Nat) = false) → TourAt m w (fun b => b.take a.length = a ∧ b.getD a.length 0 < k) (tTo (tourW m w f) a k) := by
        intro k
        induction k with
        | zero => intro _ h; obtain ⟨j, hj, _⟩ := h; omega
        | succ k ihk =>
          intro hk hex
          cases hn : hasI a (k : Nat) with
          | true =>
            have hex' : ∃ j, j < k ∧ hasI a (j : Nat) = false := by
              obtain ⟨j, hj, h⟩ := hex
              refine ⟨j, ?_, h⟩
              rcases Nat.lt_or_ge j k with h' | h'
              · exact h'
              · rw [show j = k by omega, hn] at h; cases h
            have h1 := ihk (by omega) hex'
            rw [tTo, if_pos hn]
            refine ⟨h1.f_good, h1.f_len, h1.f_end, fun b hb hbl hp => h1.f_least b hb hbl ⟨hp.1, ?_⟩⟩
            have hno := take_not hb (by omega) hp.1
            have : b.getD a.length 0 ≠ k := fun e => by rw [e, hn] at hno; cases hno
            omega
          | false =>
            have hr := ih k (by omega) hn
            have r0 := hw _ hr.f_good
            rw [← hr.f_end] at r0
            have last : ∀ b, GoodW m b → b.length = m → b.take a.length = a → b.getD a.length 0 = k → (tourW m w f (a ++ [(k : Int)])).2 ≤ w b := fun b hb hbl h1 h2 => by
              refine hr.f_least b hb hbl ?_
              have hbl2 : a.length < b.length := by omega
              rw [List.length_append, List.length_singleton, List.take_succ_eq_append_getElem hbl2, h1]
              rw [List.getD_eq_getElem?_getD, List.getElem?_eq_getElem hbl2] at h2
              simp only [Option.getD_some] at h2
              rw [h2]
            rw [tTo, hn, if_neg Bool.false_ne_true]
            by_cases hex' : ∃ j, j < k ∧ hasI a (j : Nat) = false
            · have hk' := ihk (by omega) hex'
              have p0 := hw _ hk'.f_good
              rw [← hk'.f_end] at p0
              split
              · refine ⟨hr.f_good, hr.f_len, hr.f_end, fun b hb hbl hp => ?_⟩
                by_cases hbk : b.getD a.length 0 = k
                · exact last b hb hbl hp.1 hbk
                · have := hk'.f_least b hb hbl ⟨hp.1, by omega⟩
                  omega
              · refine ⟨hk'.f_good, hk'.f_len, hk'.f_end, fun b hb hbl hp => ?_⟩
                by_cases hbk : b.getD a.length 0 = k
                · have := last b hb hbl hp.1 hbk
                  omega
                · exact hk'.f_least b hb hbl ⟨hp.1, by omega⟩
            · have hall : ∀ j : Nat, j < k → hasI a (j : Int) = true := fun j hj => by
                cases e : hasI a (j : Nat)
                · exact absurd ⟨j, hj, e⟩ hex'
                · rfl
              rw [tTo_none k hall, if_pos (.inl (by decide))]
              refine ⟨hr.f_good, hr.f_len, hr.f_end, fun b hb hbl hp => last b hb hbl hp.1 ?_⟩
              have hno := take_not hb (by omega) hp.1
              have hb0 := rng b hb hbl
              rcases Int.lt_or_le (b.getD a.length 0) k with h | h
              · have := hall (b.getD a.length 0).toNat (by omega)
                rw [Int.toNat_of_nonneg hb0.1, hno] at this; cases this
              · have := hp.2; omega
      have h1 := key m (Nat.le_refl _) (hg.some (by omega))
      exact ⟨h1.f_good, h1.f_len, h1.f_end, fun b hb hbl hp => h1.f_least b hb hbl ⟨hp, (rng b hb hbl).2⟩⟩
theorem best_tour {m : Nat} {w : List Int → Int} (hw : ∀ a, GoodW m a → 0 ≤ w a) : TourAt m w (fun _ => True) (bestW m w) := by
  have h := tour_at hw (m + 1) [] (goodW_nil m) (by simp)
  exact ⟨h.f_good, h.f_len, h.f_end, fun b hb hbl _ => h.f_least b hb hbl rfl⟩
theorem goodW_ord (m : Nat) : GoodW m (ordL m) := by
  refine ⟨?_, fun x hx => mem_ordL.1 hx⟩
  unfold ordL
  exact List.pairwise_map.2 (List.nodup_range.imp fun h e => h (Int.ofNat.inj e))
theorem goodT_one {l : List Tk} (h : goodT l = true) {i : Nat} (hi : i < l.length) : goodT [l.getD i (0, 0, 0)] = true := by
  have h2 := (of_decide_eq_true h).1 i hi
  refine decide_eq_true ⟨fun j hj => ?_, by simp⟩
  obtain rfl : j = 0 := by simpa using hj
  exact ⟨h2.1, fun h => absurd h (Nat.lt_irrefl _)⟩
theorem walkZ_one {n : Nat} {ps : List Pp} (x : Tk) (f : Int) : walkZ n ps [x] f (ordL [x].length) = stepW n ps f x.2.1 := by
  have hn : nodeW [x] ((ordL [x].length).getD 0 0) = x.2.1 := rfl
  have hl : (ordL [x].length).length = 0 + 1 := rfl
  have h0 : wk n ps [x] f (ordL [x].length) 0 = some (0, f) := rfl
  by_cases h : stepW n ps f x.2.1 < 0
  · have := stepW_rng n ps f x.2.1
    rw [walkZ_none (by rw [hl]; exact wk_stop h0 (by rw [hn]; exact h))]
    omega
  · have e := wk_go h0 (by rw [hn]; exact h)
    rw [hn, Int.zero_add] at e
    exact walkZ_some (by rw [hl]; exact e)
structure WalkAt (m : Nat) (ps : List Pp) (l : List Tk) (src : Int) (q : Bwk) : Prop where
  a_len : q.1.length = l.length
  a_le : q.2 ≤ resW m ps l src
  a_rng : ∀ k, k < q.1.length → 0 ≤ q.1.getD k 0 ∧ q.1.getD k 0 < l.length
  a_nd : ∀ k, k < q.1.length → hasI (q.1.take k) (q.1.getD k 0) = false
  a_go : ∀ k s f, k < q.1.length → wk m ps l src q.1 k = some (s, f) → 0 ≤ resW m ps [l.getD (q.1.getD k 0).toNat (0, 0, 0)] f ∧
    wk m ps l src q.1 (k + 1) = some (s + resW m ps [l.getD (q.1.getD k 0).toNat (0, 0, 0)] f, (l.getD (q.1.getD k 0).toNat (0, 0, 0)).2.1) ∧ 0 ≤ s ∧ s ≤ 56
  a_end : ∀ s f, wk m ps l src q.1 q.1.length = some (s, f) → s = q.2
theorem walk_at {m : Nat} {ps : List Pp} {l : List Tk} {src : Int} (hg : twB m ps l src = true) : WalkAt m ps l src (bestK m ps l src) := by
  obtain ⟨hz, m', hm, ok⟩ := twB_ok hg
  obtain rfl : m = m' := by omega
  have hb := best_tour ok.o_w
  have e : bestK m ps l src = bestW l.length (walkZ m ps l src) := rfl
  rw [← e] at hb
  have hcw : cwB m ps l src = true := by
    cases h : cwB m ps l src
    · rw [cwB_no h] at hz; omega
    · rfl
  obtain ⟨g1, g2, g3, g4⟩ := cwB_yes hcw
  generalize bestK m ps l src = q at *
  have hat := hb.f_good.at (by have := ok.o_l; omega)
  have hn := (NetAt.of g1).f_n
  have hpos := ok.o_w _ hb.f_good
  refine ⟨hb.f_len, ?_, hat.2, fun k hk => ?_, fun k s f hk hw => ?_, fun s f hw => ?_⟩
  · rw [resW_good g1 g2 g3]
    exact hb.f_least _ (goodW_ord _) (ordL_length _) trivial
  · have := take_not (a := q.1.take k) hb.f_good (by rw [List.length_take]; omega) (by rw [List.length_take]; congr 1; omega)
    rwa [List.length_take, Nat.min_eq_left (by omega)] at this
  · obtain ⟨h1, h2⟩ := hat.2 k hk
    have hr := wk_rng ok.o_s k s f hw
    have hi : (q.1.getD k 0).toNat < l.length := by omega
    have hf : inB f 1 m = true := by simp only [inB, Bool.and_eq_true, decide_eq_true_eq]; omega
    rw [resW_good g1 (goodT_one g2 hi) hf, walkZ_one]
    have hnd : nodeW l (q.1.getD k 0) = (l.getD (q.1.getD k 0).toNat (0, 0, 0)).2.1 := rfl
    have hns : ¬ stepW m ps f (nodeW l (q.1.getD k 0)) < 0 := fun h => by
      have := walkZ_none (wk_le (wk_stop hw h) hk)
      omega
    have hgo := wk_go hw hns
    rw [hnd] at hgo hns
    have h7 := hat.1
    have : (m : Int) * (k : Int) ≤ 8 * 7 := Int.mul_le_mul (by omega) (by omega) (by omega) (by omega)
    exact ⟨by omega, hgo, by omega, by omega⟩
  · rw [hb.f_end]
    exact (walkZ_some hw).symm
end Go.Proofs.Ytkjgmppcgcimgaa
